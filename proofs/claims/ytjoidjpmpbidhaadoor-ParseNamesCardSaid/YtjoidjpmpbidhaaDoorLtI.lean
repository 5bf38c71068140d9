/-
  Lt: what a call is given, read as data.
  Lt: a law's call, out of the abstract machine's answer.
  Lt: closed calls, answered once and for all.
  Lt: a table of functions.
  Lt: what the program's package-level variables hold; the library's function that is told by its answer.
  Lt: the machine once more, each operation in a definition of its own: a run by the kernel costs less so; and that it is the same machine.
-/
import Derived.Test.YtjoidjpmpbidhaaDoorLtH
import Derived.OpenShut
import Derived.ChangeArms
import Derived.ChangeReads
import Derived.Test.YtjoidjpmpbidhaaDoorLtA
set_option linter.all false
namespace Go.Lt
open Go
variable {H : Type} {P : Program}

/-- the value that some cells are -/
def toV (P : Program) (t : TypeId) (cs : List AV) : Option AV :=
  match P.underlying t with
  | some (.struct _) => some (.agg cs)
  | some (.array _ _) => some (.agg cs)
  | some _ => match cs with
    | [c] => some c
    | _ => none
  | none => none

def dKey (P : Program) (k : TypeId) : Lit → Option AV
  | .string bs => match P.underlying k with
    | some .string => some (.str (bs.map UInt8.toNat))
    | _ => none
  | .int q n => match P.underlying k with
    | some (.int q') => if q = q' then some (.int q n) else none
    | _ => none
  | _ => none
mutual
/-- the cells that a datum is -/
def dAV (P : Program) (t : TypeId) : DataW H → Option (List AV)
  | .lit (.bool b) => match P.underlying t with
    | some .bool => some [.bool b]
    | _ => none
  | .lit (.int k n) => match P.underlying t with
    | some (.int k') => if k = k' ∧ (Lit.int k n).wf = true then some [.int k n] else none
    | _ => none
  | .lit (.string bs) => match P.underlying t with
    | some .string => if bs.length ≤ maxLen then some [.str (bs.map UInt8.toNat)] else none
    | _ => none
  | .nil => match P.underlying t with
    | some (.slice _) => some [.sl false []]
    | _ => none
  | .slice elems _ => match P.underlying t with
    | some (.slice e) => if elems.length ≤ maxLen ∧ 0 < P.cellsOf e then match dElems P e elems with
      | some xs => some [.sl false xs]
      | none => none
      else none
    | _ => none
  | .agg parts => match P.underlying t with
    | some (.struct fs) => match dFields P fs.toList 0 parts with
      | some cs => if cs.length = P.cellsOf t then some cs else none
      | none => none
    | some (.array n e) => if parts.length = n then match dReps P e parts with
      | some cs => if cs.length = P.cellsOf t then some cs else none
      | none => none
      else none
    | _ => none
  | .map es => match P.underlying t with
    | some (.map k e) => match dEnts P k e es with
      | some xs => match distinctM xs with
        | true => some [.cmap xs]
        | false => none
      | none => none
    | _ => none
  | _ => none
def dElems (P : Program) (e : TypeId) : List (DataW H) → Option (List AV)
  | [] => some []
  | d :: ds => match dAV P e d with
    | some cs => if cs.length = P.cellsOf e then match toV P e cs with
      | some x => match dElems P e ds with
        | some xs => some (x :: xs)
        | none => none
      | none => none
      else none
    | none => none
def dFields (P : Program) (fs : List Field) (off : Nat) : List (DataW H) → Option (List AV)
  | [] => match fs with
    | [] => some []
    | _ => none
  | d :: ds => match fs with
    | f :: fs => if f.offset = off then match dAV P f.type d with
      | some cs => if cs.length = P.cellsOf f.type then match dFields P fs (off + cs.length) ds with
        | some r => some (cs ++ r)
        | none => none
        else none
      | none => none
      else none
    | [] => none
def dReps (P : Program) (e : TypeId) : List (DataW H) → Option (List AV)
  | [] => some []
  | d :: ds => match dAV P e d with
    | some cs => if cs.length = P.cellsOf e then match dReps P e ds with
      | some r => some (cs ++ r)
      | none => none
      else none
    | none => none
def dEnts (P : Program) (k e : TypeId) : List (Lit × DataW H) → Option (List (AV × AV))
  | [] => some []
  | x :: r => match dEnt P k e x with
    | some y => match dEnts P k e r with
      | some ys => some (y :: ys)
      | none => none
    | none => none
def dEnt (P : Program) (k e : TypeId) : Lit × DataW H → Option (AV × AV)
  | (l, d) => match dKey P k l, dAV P e d with
    | some x, some cs => match toV P e cs with
      | some y => some (x, y)
      | none => none
    | _, _ => none
end

def startG (w : World) : Gho :=
  { con := fun b o => w.cell? ⟨b, o, none⟩, obj := fun b => match w.heap[b]? with
      | some (.map es k) => some (es, k)
      | _ => none, role := fun _ => .none, mrk := none }
theorem start_rel (CO : Nat → Code → AC → Prop) (w : World) : StRel CO (startG w) [] w where
  con _ _ _ h := h
  obj b x h := by
    simp only [startG] at h
    split at h <;> first | (cases h; done) | skip
    rename_i he
    cases h
    exact he
  lt b h := absurd rfl h
  sep b := ⟨fun i h => (by cases h), fun i h => (by cases h)⟩
  heap b i h := by cases h
  uniq b b' i h := by cases h
theorem start_clean (w : World) : Clean (startG w) := fun _ => .inl rfl
/-- what was there is as it was -/
theorem start_kept {w w' : World} {G' : Gho} (h : Le (startG w) w G' w') : w'.os = w.os ∧ w'.output = w.output ∧ ∀ i, i < w.heap.size → w'.heap[i]? = w.heap[i]? :=
  ⟨h.os, h.out, fun i hi => (h.same i hi rfl).1⟩

theorem toV_cells {t : TypeId} {cs : List AV} {x : AV} (h : toV P t cs = some x) (hl : allLeaf cs = true) : x.cells = cs := by
  unfold toV at h
  split at h
  · cases h; rfl
  · cases h; rfl
  · split at h <;> cases h
    rename_i c
    simp only [allLeaf, Bool.and_true] at hl
    cases x <;> first | rfl | (simp [AV.leaf] at hl)
  · cases h

theorem dElems_get {e : TypeId} : ∀ {ds : List (DataW H)} {xs : List AV}, dElems P e ds = some xs → xs.length = ds.length ∧ ∀ (i : Nat) (d : DataW H), ds[i]? = some d → ∃ cs x, dAV P e d = some cs ∧ cs.length = P.cellsOf e ∧ toV P e cs = some x ∧ xs[i]? = some x
  | [], xs, h => by
    simp only [dElems] at h
    cases h
    exact ⟨rfl, fun i d h => by simp at h⟩
  | d :: ds, xs, h => by
    simp only [dElems] at h
    split at h <;> first | (cases h; done) | skip
    rename_i cs hcs
    split at h <;> first | (cases h; done) | skip
    rename_i hl
    split at h <;> first | (cases h; done) | skip
    rename_i x hx
    split at h <;> first | (cases h; done) | skip
    rename_i ys hys
    cases h
    obtain ⟨k1, k2⟩ := dElems_get hys
    refine ⟨by simp [k1], fun i d' hd => ?_⟩
    cases i with
    | zero => cases hd; exact ⟨cs, x, hcs, hl, hx, rfl⟩
    | succ i => simpa using k2 i d' (by simpa using hd)

theorem CA.flat {G : Gho} {b n : Nat} : ∀ {xs : List AV} {off : Nat}, (∀ (i : Nat) (x : AV), xs[i]? = some x → CA G b (off + i * n) x.cells ∧ x.cells.length = n) → CA G b off (xs.flatMap AV.cells)
  | [], off, _ => .nil b off
  | x :: xs, off, h => by
    obtain ⟨h1, h2⟩ := h 0 x rfl
    simp only [List.flatMap_cons]
    refine CA.append (by simpa using h1) (CA.flat (n := n) fun i y hy => ?_)
    obtain ⟨k1, k2⟩ := h (i + 1) y (by simpa using hy)
    refine ⟨?_, k2⟩
    have : off + x.cells.length + i * n = off + (i + 1) * n := by rw [h2, Nat.add_mul]; omega
    rw [this]; exact k1

theorem cell_spot {w : World} {a : Addr} {v : Value} (h : w.cell? a = some v) : a.spot = none ∧ w.cell? ⟨a.block, a.off, none⟩ = some v := by
  unfold World.cell? at h ⊢
  split at h <;> first | (cases h; done) | skip
  rename_i c e f he
  split at h <;> first | (cases h; done) | skip
  rename_i hs
  refine ⟨by simpa using hs, ?_⟩
  simp only [he]
  simpa using h
theorem add_block (a : Addr) (i : Nat) : (a.add i).block = a.block ∧ (a.add i).off = a.off + i := by
  unfold Addr.add
  split
  · rename_i h; subst h; exact ⟨rfl, rfl⟩
  · exact ⟨rfl, rfl⟩
theorem cell_add {w : World} {a : Addr} {i j : Nat} {v : Value} (h : w.cell? ((a.add i).add j) = some v) : w.cell? ⟨a.block, a.off + i + j, none⟩ = some v := by
  have h := (cell_spot h).2
  obtain ⟨h1, h2⟩ := add_block (a.add i) j
  obtain ⟨h3, h4⟩ := add_block a i
  rw [h1, h2, h3, h4] at h
  exact h
theorem cells_get {w : World} {base : Nat} {a : Addr} {n : Nat} {vs : List Value} (h : w.cells? base a n = some vs) : vs.length = n ∧ ∀ j, j < n → w.cell? (a.add j) = vs[j]? := by
  unfold World.cells? at h
  split at h <;> first | (cases h; done) | skip
  refine ⟨by simpa using mapM_some_length h, fun j hj => ?_⟩
  exact mapM_some_get h j j (by simp [hj])

section
variable {enc : TypeId × Value → H} {w : World} {base : Nat} {spare : Nat → Bool} {held : Bool}

/-- what is shown of a datum -/
def DSound (P : Program) (w : World) (t : TypeId) (vcs : List Value) (d : DataW H) : Prop := ∀ cs, dAV P t d = some cs → VRs (startG w) cs vcs ∧ allLeaf cs = true

theorem fields_sound {n : Nat} (ih : ∀ t vcs x, DataW.trod enc P w base spare held n t vcs = some x → DSound P w t vcs x.1) {vcs : List Value} :
    ∀ (fs : List Field) (xs : List (DataW H × List MemPlace)) (off : Nat) (cs : List AV), (∀ (i : Nat) (f : Field), fs[i]? = some f → DataW.trod enc P w base spare held n f.type ((vcs.drop f.offset).take (P.cellsOf f.type)) = xs[i]?) → xs.length = fs.length →
      dFields P fs off (xs.map (·.1)) = some cs → VRs (startG w) cs ((vcs.drop off).take cs.length) ∧ allLeaf cs = true
  | [], [], off, cs, _, _, h => by
    simp only [List.map_nil, dFields] at h
    cases h
    exact ⟨by simpa using VRs.nil, rfl⟩
  | [], _ :: _, _, _, _, hl, _ => by simp at hl
  | _ :: _, [], _, _, _, hl, _ => by simp at hl
  | f :: fs, x :: xs, off, cs, hx, hl, h => by
    simp only [List.map_cons, dFields] at h
    split at h <;> first | (cases h; done) | skip
    rename_i hoff
    split at h <;> first | (cases h; done) | skip
    rename_i c hc
    split at h <;> first | (cases h; done) | skip
    rename_i hcl
    split at h <;> first | (cases h; done) | skip
    rename_i r hr
    cases h
    have h0 := hx 0 f rfl
    simp only [List.getElem?_cons_zero] at h0
    obtain ⟨k1, k2⟩ := ih _ _ _ h0 c hc
    obtain ⟨j1, j2⟩ := fields_sound ih fs xs _ r (fun i f' hf => by simpa using hx (i + 1) f' (by simpa using hf)) (by simpa using hl) hr
    refine ⟨?_, allLeaf_append.2 ⟨k2, j2⟩⟩
    rw [List.length_append, List.take_add, List.drop_drop]
    rw [hoff, ← hcl] at k1
    exact k1.append j1

theorem reps_sound {n : Nat} (ih : ∀ t vcs x, DataW.trod enc P w base spare held n t vcs = some x → DSound P w t vcs x.1) {vcs : List Value} {e : TypeId} :
    ∀ (xs : List (DataW H × List MemPlace)) (k : Nat) (cs : List AV), (∀ i, i < xs.length → DataW.trod enc P w base spare held n e ((vcs.drop ((k + i) * P.cellsOf e)).take (P.cellsOf e)) = xs[i]?) →
      dReps P e (xs.map (·.1)) = some cs → VRs (startG w) cs ((vcs.drop (k * P.cellsOf e)).take cs.length) ∧ allLeaf cs = true
  | [], k, cs, _, h => by
    simp only [List.map_nil, dReps] at h
    cases h
    exact ⟨by simpa using VRs.nil, rfl⟩
  | x :: xs, k, cs, hx, h => by
    simp only [List.map_cons, dReps] at h
    split at h <;> first | (cases h; done) | skip
    rename_i c hc
    split at h <;> first | (cases h; done) | skip
    rename_i hcl
    split at h <;> first | (cases h; done) | skip
    rename_i r hr
    cases h
    have h0 := hx 0 (by simp)
    simp only [List.getElem?_cons_zero, Nat.add_zero] at h0
    obtain ⟨k1, k2⟩ := ih _ _ _ h0 c hc
    obtain ⟨j1, j2⟩ := reps_sound ih xs (k + 1) r (fun i hi => by
      have := hx (i + 1) (by simpa using hi)
      rw [List.getElem?_cons_succ] at this
      rw [← this]
      congr 4
      omega) hr
    refine ⟨?_, allLeaf_append.2 ⟨k2, j2⟩⟩
    have e2 : k * P.cellsOf e + P.cellsOf e = (k + 1) * P.cellsOf e := by rw [Nat.add_mul]; omega
    rw [List.length_append, List.take_add, List.drop_drop, hcl, e2]
    exact k1.append j1

theorem insert_perm (x : Lit × DataW H) : ∀ l : List (Lit × DataW H), (DataW.insert x l).Perm (x :: l)
  | [] => .refl _
  | y :: r => by
    unfold DataW.insert
    split
    · exact .refl _
    · exact ((insert_perm x r).cons y).trans (.swap x y r)
theorem sorted_perm : ∀ l : List (Lit × DataW H), (l.foldr DataW.insert []).Perm l
  | [] => .refl _
  | x :: l => by
    simp only [List.foldr_cons]
    exact (insert_perm x _).trans ((sorted_perm l).cons x)
theorem dEnts_perm {k e : TypeId} {l l' : List (Lit × DataW H)} (h : l.Perm l') : ∀ {r : List (AV × AV)}, dEnts P k e l = some r → ∃ r', dEnts P k e l' = some r' ∧ r'.Perm r := by
  induction h with
  | nil => intro r h; exact ⟨r, h, .refl _⟩
  | cons x _ ih =>
    intro r h
    simp only [dEnts] at h ⊢
    split at h <;> first | (cases h; done) | skip
    rename_i y hy
    split at h <;> first | (cases h; done) | skip
    rename_i ys hys
    cases h
    obtain ⟨r', h1, h2⟩ := ih hys
    (try simp only [hy]); (try simp only [h1])
    exact ⟨_, rfl, h2.cons y⟩
  | swap x y l =>
    intro r h
    simp only [dEnts] at h ⊢
    split at h <;> first | (cases h; done) | skip
    rename_i y1 hy1
    split at h <;> first | (cases h; done) | skip
    rename_i ys hys
    cases h
    split at hys <;> first | (cases hys; done) | skip
    rename_i x1 hx1
    split at hys <;> first | (cases hys; done) | skip
    rename_i zs hzs
    cases hys
    (try simp only [hx1]); (try simp only [hy1]); (try simp only [hzs])
    exact ⟨_, rfl, .swap _ _ _⟩
  | trans _ _ ih1 ih2 =>
    intro r h
    obtain ⟨r1, h1, p1⟩ := ih1 h
    obtain ⟨r2, h2, p2⟩ := ih2 h1
    exact ⟨r2, h2, p2.trans p1⟩

theorem key_sound {k : TypeId} {v : Value} {l : Lit} {x : AV} (h : keyOf P k v = some l) (hx : dKey P k l = some x) : VR (startG w) x v ∧ x.leaf = true := by
  unfold dKey at hx
  cases l <;> simp only [reduceCtorEq] at hx
  · rename_i q n
    split at hx <;> first | (cases hx; done) | skip
    rename_i q' hu
    split at hx <;> cases hx
    rename_i hq
    subst hq
    unfold keyOf mapKey at h
    simp only [hu] at h
    cases v <;> simp only [reduceCtorEq] at h
    split at h <;> simp only [Option.some.injEq, Lit.int.injEq, reduceCtorEq] at h
    rename_i hc
    obtain ⟨h1, h2⟩ := h
    subst h2
    rw [hc.1]
    exact ⟨.int _ _, rfl⟩
  · rename_i bs
    split at hx <;> cases hx
    rename_i hu
    unfold keyOf mapKey at h
    simp only [hu] at h
    cases v <;> simp only [reduceCtorEq] at h
    split at h <;> simp only [Option.some.injEq, Lit.string.injEq, reduceCtorEq] at h
    subst h
    exact ⟨.str _ _ rfl, rfl⟩

theorem toV_sound {t : TypeId} {v : Value} {cs : List AV} {x : AV} (hf : v.formed P t = true) (hx : toV P t cs = some x) (hv : VRs (startG w) cs v.cells.toList) (hl : allLeaf cs = true) : VR (startG w) x v := by
  unfold toV at hx
  unfold Value.formed at hf
  split at hx
  · rename_i fs hu
    cases hx
    simp only [hu] at hf
    cases v <;> simp only [Bool.false_eq_true] at hf
    exact .agg _ _ hl hv
  · rename_i n e hu
    cases hx
    simp only [hu] at hf
    cases v <;> simp only [Bool.false_eq_true] at hf
    exact .agg _ _ hl hv
  · rename_i d n1 n2 hu
    split at hx <;> cases hx
    cases v <;> simp only [hu, Bool.false_eq_true] at hf
    all_goals first
      | (simp only [Value.cells] at hv; cases hv; assumption)
      | (split at hf <;> first | (cases hf; done) | (rename_i heq; cases heq; first | exact (n1 _ rfl).elim | exact (n2 _ _ rfl).elim))
  · cases hx

theorem ents_sound {n : Nat} (ih : ∀ t vcs x, DataW.trod enc P w base spare held n t vcs = some x → DSound P w t vcs x.1) {k e : TypeId} :
    ∀ {l : List MapEntry} {r : List ((Lit × DataW H) × List MemPlace)}, (l.mapM fun x => (keyOf P k x.key).bind fun key =>
            if x.val.formed P e then (DataW.trod enc P w base spare held n e x.val.cells.toList).map fun y => ((key, y.1), y.2) else none) = some r →
      ∀ {es : List (AV × AV)}, dEnts P k e (r.map (·.1)) = some es → MEs (startG w) es l
  | [], r, h, es, he => by
    simp at h
    subst h
    simp only [List.map_nil, dEnts] at he
    cases he
    exact .nil
  | m :: l, r, h, es, he => by
    rw [List.mapM_cons] at h
    simp only [Option.pure_def, Option.bind_eq_bind, Option.bind_eq_some_iff] at h
    obtain ⟨y, ⟨key, hkey, hy⟩, ys, hys, hr⟩ := h
    cases hr
    split at hy <;> first | (cases hy; done) | skip
    rename_i hfm
    simp only [Option.map_eq_some_iff] at hy
    obtain ⟨z, hz, rfl⟩ := hy
    simp only [List.map_cons, dEnts] at he
    split at he <;> first | (cases he; done) | skip
    rename_i u hu
    split at he <;> first | (cases he; done) | skip
    rename_i us hus
    cases he
    simp only [dEnt] at hu
    split at hu <;> first | (cases hu; done) | skip
    rename_i x cs hx hcs
    split at hu <;> cases hu
    rename_i vv hvv
    obtain ⟨k1, k2⟩ := key_sound (w := w) hkey hx
    obtain ⟨j1, j2⟩ := ih _ _ _ hz cs hcs
    exact .cons _ _ _ _ _ k1 k2 (toV_sound hfm hvv j1 j2) (ents_sound ih hys hus)

def readable : TypeDesc → Bool
  | .bool | .int _ | .string | .slice _ | .struct _ | .array _ _ | .map _ _ => true
  | _ => false
theorem dAV_none {t : TypeId} (h : ∀ td, P.underlying t = some td → readable td = false) (d : DataW H) : dAV P t d = none := by
  cases d with
  | lit l =>
    cases l <;> unfold dAV <;> first | rfl | (split <;> first | rfl | (rename_i heq; have := h _ heq; cases this))
  | nil => unfold dAV; split <;> first | rfl | (rename_i heq; have := h _ heq; cases this)
  | ptr d => unfold dAV; rfl
  | slice _ _ => unfold dAV; split <;> first | rfl | (rename_i heq; have := h _ heq; cases this)
  | agg _ => unfold dAV; split <;> first | rfl | (rename_i heq; have := h _ heq; cases this)
  | iface _ _ => unfold dAV; rfl
  | map _ => unfold dAV; split <;> first | rfl | (rename_i heq; have := h _ heq; cases this)
  | held _ => unfold dAV; rfl

theorem dAV_sound : ∀ (n : Nat) (t : TypeId) (vcs : List Value) (x : DataW H × List MemPlace), DataW.trod enc P w base spare held n t vcs = some x → DSound P w t vcs x.1 := by
  intro n
  induction n with
  | zero => intro t vcs x h; simp [DataW.trod] at h
  | succ n ih =>
    intro t vcs x h cs hcs
    cases hu : P.underlying t with
    | none => rw [dAV_none (fun td h => by rw [hu] at h; cases h)] at hcs; cases hcs
    | some td =>
    have hother : readable td = false → False := fun hr => by
      rw [dAV_none (fun td' h => by rw [hu] at h; cases h; exact hr)] at hcs
      cases hcs
    cases td with
    | bool =>
      obtain ⟨b, rfl, rfl⟩ := DataW.trod_bool hu h
      simp only [dAV, hu, Option.some.injEq] at hcs
      subst hcs
      exact ⟨.cons _ _ _ _ (.bool b) .nil, rfl⟩
    | int k =>
      obtain ⟨m, rfl, rfl, hw⟩ := DataW.trod_int hu h
      simp only [dAV, hu, hw, and_self, if_true, Option.some.injEq] at hcs
      subst hcs
      exact ⟨.cons _ _ _ _ (.int k m) .nil, rfl⟩
    | string =>
      obtain ⟨s, rfl, rfl, hs⟩ := DataW.trod_string hu h
      simp only [dAV, hu] at hcs
      split at hcs <;> cases hcs
      exact ⟨.cons _ _ _ _ (.str _ s rfl) .nil, rfl⟩
    | slice e =>
      rcases DataW.trod_slice hu h with ⟨rfl, rfl⟩ | ⟨a, len, cap, elems, rest, m, hm, rfl, rfl, hb, hlc, hcm, hel, hel2, _, _⟩
      · simp only [dAV, hu, Option.some.injEq] at hcs
        subst hcs
        exact ⟨.cons _ _ _ _ (.sl0f none 0) .nil, rfl⟩
      · cases hm
        simp only [dAV, hu] at hcs
        split at hcs <;> first | (cases hcs; done) | skip
        rename_i hpos
        split at hcs <;> cases hcs
        rename_i xs hxs
        obtain ⟨q1, q2⟩ := dElems_get hxs
        simp only [List.length_map] at q1
        refine ⟨.cons _ _ _ _ ?_ .nil, rfl⟩
        -- an element
        have hone : ∀ (i : Nat) (y : AV), xs[i]? = some y → CA (startG w) a.block (a.off + i * P.cellsOf e) y.cells ∧ y.cells.length = P.cellsOf e ∧ (i = 0 → a.spot = none) := by
          intro i y hy
          have hi : i < len := by
            have := (List.getElem?_eq_some_iff.1 hy).1
            omega
          have h1 := hel2 i hi
          have hie : i < elems.length := by omega
          rw [List.getElem?_eq_getElem hie] at h1
          simp only [Option.bind_eq_some_iff] at h1
          obtain ⟨ci, hci, htr⟩ := h1
          obtain ⟨cs', y', d1, d2, d3, d4⟩ := q2 i elems[i].1 (by simp [hie])
          rw [hy] at d4
          cases d4
          obtain ⟨k1, k2⟩ := ih _ _ _ htr cs' d1
          have hyc := toV_cells d3 k2
          obtain ⟨g1, g2⟩ := cells_get hci
          refine ⟨?_, by rw [hyc, d2], ?_⟩
          · rw [hyc]
            refine CA.of_get fun j c hc => ?_
            obtain ⟨v, hv, hvr⟩ := k1.get j c hc
            have hj : j < P.cellsOf e := by rw [← d2]; exact (List.getElem?_eq_some_iff.1 hc).1
            refine ⟨v, ?_, allLeaf_get k2 hc, hvr⟩
            have := g2 j hj
            rw [hv] at this
            exact cell_add this
          · intro h0
            subst h0
            have h2 := g2 0 hpos.2
            have hlt : 0 < ci.length := by rw [g1]; exact hpos.2
            rw [List.getElem?_eq_getElem hlt] at h2
            have h3 : (a.add (0 * P.cellsOf e)).add 0 = a := by simp [Addr.add]
            rw [h3] at h2
            exact (cell_spot h2).1
        cases xs with
        | nil =>
          have h0 : len = 0 := by simp at q1; omega
          rw [h0]
          exact .sl0f (some a) cap
        | cons y xs =>
          have hsp := (hone 0 y rfl).2.2 rfl
          have ha : a = ⟨a.block, a.off, none⟩ := by
            cases a
            simp only at hsp
            rw [hsp]
          rw [ha]
          refine .sl false y xs ((y :: xs).flatMap AV.cells) a.block a.off (P.cellsOf e) len cap ?_ rfl (by omega) hlc ?_
          · intro z hz
            obtain ⟨i, hi⟩ := List.mem_iff_getElem?.1 hz
            exact (hone i z hi).2.1
          · exact CA.flat (n := P.cellsOf e) fun i z hz => ⟨(hone i z hz).1, (hone i z hz).2.1⟩
    | struct fs =>
      obtain ⟨xs, m, hm, rfl, hl, hxl, hx⟩ := DataW.trod_struct hu h
      cases hm
      simp only [dAV, hu] at hcs
      split at hcs <;> first | (cases hcs; done) | skip
      rename_i c hc
      split at hcs <;> cases hcs
      rename_i hcl
      obtain ⟨k1, k2⟩ := fields_sound ih fs.toList xs 0 cs (fun i f hf => hx i f (by simpa using hf)) (by simpa using hxl) hc
      refine ⟨?_, k2⟩
      rw [List.drop_zero, List.take_of_length_le (by omega)] at k1
      exact k1
    | array k e =>
      obtain ⟨xs, m, hm, rfl, hl, hxl, hx⟩ := DataW.trod_array hu h
      cases hm
      simp only [dAV, hu] at hcs
      split at hcs <;> first | (cases hcs; done) | skip
      split at hcs <;> first | (cases hcs; done) | skip
      rename_i c hc
      split at hcs <;> cases hcs
      rename_i hcl
      obtain ⟨k1, k2⟩ := reps_sound ih xs 0 cs (fun i hi => by simpa using hx i (by omega)) hc
      refine ⟨?_, k2⟩
      rw [Nat.zero_mul, List.drop_zero, List.take_of_length_le (by omega)] at k1
      exact k1
    | map k e =>
      unfold DataW.trod at h
      rw [hu] at h
      cases vcs with
      | nil => simp at h
      | cons v vs =>
      cases vs with
      | cons _ _ => simp at h
      | nil =>
      cases v <;> simp only [reduceCtorEq] at h
      rename_i r
      cases r with
      | none =>
        simp only [Option.some.injEq] at h
        subst h
        simp only [dAV, hu, reduceCtorEq] at hcs
      | some b =>
        simp only at h
        split at h <;> first | (cases h; done) | skip
        rename_i es clock hb
        split at h <;> first | (cases h; done) | skip
        simp only [Option.bind_eq_some_iff] at h
        obtain ⟨entries, hent, h⟩ := h
        split at h <;> first | (cases h; done) | skip
        cases h
        simp only [dAV, hu] at hcs
        split at hcs <;> first | (cases hcs; done) | skip
        rename_i xs hxs
        split at hcs <;> cases hcs
        rename_i hdm
        obtain ⟨es', h1, h2⟩ := dEnts_perm (sorted_perm _) hxs
        have hM := ents_sound ih hent h1
        refine ⟨.cons _ _ _ _ (.cmap xs es' b es.toList clock ?_ h2 hdm hM) .nil, rfl⟩
        simp [startG, hb]
    | _ => exact (hother rfl).elim

/-! ### types whose data all are cells -/
def contig (P : Program) (T : List Nat) : List Field → Nat → Nat → Bool
  | [], off, tot => Nat.beq off tot
  | f :: fs, off, tot => Nat.beq f.offset off && hasNat T f.type && contig P T fs (off + P.cellsOf f.type) tot
def okTy (P : Program) (T : List Nat) (t : TypeId) : Bool :=
  match P.underlying t with
  | some .bool => Nat.beq (P.cellsOf t) 1
  | some (.int _) => Nat.beq (P.cellsOf t) 1
  | some .string => Nat.beq (P.cellsOf t) 1
  | some (.slice e) => Nat.beq (P.cellsOf t) 1 && hasNat T e && Nat.blt 0 (P.cellsOf e)
  | some (.struct fs) => contig P T fs.toList 0 (P.cellsOf t)
  | some (.array n e) => hasNat T e && Nat.beq (n * P.cellsOf e) (P.cellsOf t)
  | _ => false
def okSet (P : Program) (T : List Nat) : Bool := T.all (okTy P T)

theorem fields_some {T : List Nat} {n : Nat} (ih : ∀ t vcs x, DataW.trod enc P w base spare held n t vcs = some x → t ∈ T → ∃ cs, dAV P t x.1 = some cs ∧ cs.length = P.cellsOf t) {vcs : List Value} {tot : Nat} :
    ∀ (fs : List Field) (xs : List (DataW H × List MemPlace)) (off : Nat), contig P T fs off tot = true → (∀ (i : Nat) (f : Field), fs[i]? = some f → DataW.trod enc P w base spare held n f.type ((vcs.drop f.offset).take (P.cellsOf f.type)) = xs[i]?) → xs.length = fs.length →
      ∃ cs, dFields P fs off (xs.map (·.1)) = some cs ∧ off + cs.length = tot
  | [], [], off, hc, _, _ => ⟨[], by simp [dFields], by simpa using beq_iff.1 hc⟩
  | [], _ :: _, _, _, _, hl => by simp at hl
  | _ :: _, [], _, _, _, hl => by simp at hl
  | f :: fs, x :: xs, off, hc, hx, hl => by
    simp only [contig, Bool.and_eq_true] at hc
    obtain ⟨⟨c1, c2⟩, c3⟩ := hc
    have c1 := beq_iff.1 c1
    have h0 := hx 0 f rfl
    simp only [List.getElem?_cons_zero] at h0
    obtain ⟨c, k1, k2⟩ := ih _ _ _ h0 (hasNat_iff.1 c2)
    obtain ⟨r, j1, j2⟩ := fields_some ih fs xs (off + P.cellsOf f.type) c3 (fun i f' hf => by simpa using hx (i + 1) f' (by simpa using hf)) (by simpa using hl)
    refine ⟨c ++ r, ?_, by simp only [List.length_append]; omega⟩
    simp only [List.map_cons, dFields, c1, if_true, k1, k2, j1]

theorem dAV_some {T : List Nat} (hT : okSet P T = true) : ∀ (n : Nat) (t : TypeId) (vcs : List Value) (x : DataW H × List MemPlace), DataW.trod enc P w base spare held n t vcs = some x → t ∈ T → ∃ cs, dAV P t x.1 = some cs ∧ cs.length = P.cellsOf t := by
  intro n
  induction n with
  | zero => intro t vcs x h; simp [DataW.trod] at h
  | succ n ih =>
    intro t vcs x h ht
    have hok := List.all_eq_true.1 hT t ht
    unfold okTy at hok
    cases hu : P.underlying t with
    | none => rw [hu] at hok; cases hok
    | some td =>
    rw [hu] at hok
    cases td <;> simp only [Bool.false_eq_true] at hok
    case bool =>
      obtain ⟨b, rfl, rfl⟩ := DataW.trod_bool hu h
      exact ⟨[.bool b], by simp only [dAV, hu], (beq_iff.1 hok).symm⟩
    case int k =>
      obtain ⟨m, rfl, rfl, hw⟩ := DataW.trod_int hu h
      exact ⟨[.int k m], by simp only [dAV, hu, hw, and_self, if_true], (beq_iff.1 hok).symm⟩
    case string =>
      obtain ⟨s, rfl, rfl, hs⟩ := DataW.trod_string hu h
      refine ⟨[.str (s.data.toList.map UInt8.toNat)], ?_, (beq_iff.1 hok).symm⟩
      simp only [dAV, hu]
      rw [if_pos (by simpa using hs)]
    case slice e =>
      simp only [Bool.and_eq_true] at hok
      obtain ⟨⟨o1, o2⟩, o3⟩ := hok
      have o2 := hasNat_iff.1 o2
      have o3 : 0 < P.cellsOf e := by simpa using o3
      rcases DataW.trod_slice hu h with ⟨rfl, rfl⟩ | ⟨a, len, cap, elems, rest, m, hm, rfl, rfl, hb, hlc, hcm, hel, hel2, _, _⟩
      · exact ⟨[.sl false []], by simp only [dAV, hu], (beq_iff.1 o1).symm⟩
      · cases hm
        have hall : ∀ (l : List (DataW H × List MemPlace)), (∀ y ∈ l, ∃ ci, DataW.trod enc P w base spare held n e ci = some y) → ∃ xs, dElems P e (l.map (·.1)) = some xs := by
          intro l
          induction l with
          | nil => intro _; exact ⟨[], by simp [dElems]⟩
          | cons y l ihl =>
            intro hl
            obtain ⟨ci, hci⟩ := hl y (by simp)
            obtain ⟨c, k1, k2⟩ := ih _ _ _ hci o2
            obtain ⟨xs, hxs⟩ := ihl fun z hz => hl z (by simp [hz])
            have htv : ∃ v, toV P e c = some v := by
              have hoe := List.all_eq_true.1 hT e o2
              unfold okTy at hoe
              unfold toV
              split
              · exact ⟨_, rfl⟩
              · exact ⟨_, rfl⟩
              · rename_i d n1 n2 hue
                have h1 : P.cellsOf e = 1 := by
                  rw [hue] at hoe
                  cases d <;> simp only [Bool.false_eq_true, Bool.and_eq_true] at hoe
                  · exact beq_iff.1 hoe
                  · exact beq_iff.1 hoe
                  · exact beq_iff.1 hoe
                  · exact beq_iff.1 hoe.1.1
                  · exact (n2 _ _ rfl).elim
                  · exact (n1 _ rfl).elim
                rw [h1] at k2
                obtain ⟨z, rfl⟩ := List.length_eq_one_iff.1 k2
                exact ⟨z, rfl⟩
              · rename_i hue
                rw [hue] at hoe
                cases hoe
            obtain ⟨v, hv⟩ := htv
            exact ⟨v :: xs, by simp only [List.map_cons, dElems, k1, k2, if_true, hv, hxs]⟩
        obtain ⟨xs, hxs⟩ := hall elems fun y hy => by
          obtain ⟨i, hi⟩ := List.mem_iff_getElem?.1 hy
          have hlt : i < len := by
            have := (List.getElem?_eq_some_iff.1 hi).1
            omega
          have := hel2 i hlt
          rw [hi] at this
          simp only [Option.bind_eq_some_iff] at this
          obtain ⟨ci, _, hci⟩ := this
          exact ⟨ci, hci⟩
        refine ⟨[.sl false xs], ?_, (beq_iff.1 o1).symm⟩
        simp only [dAV, hu]
        rw [if_pos ⟨by rw [List.length_map]; omega, o3⟩, hxs]
    case struct fs =>
      obtain ⟨xs, m, hm, rfl, hl, hxl, hx⟩ := DataW.trod_struct hu h
      cases hm
      obtain ⟨cs, k1, k2⟩ := fields_some ih fs.toList xs 0 hok (fun i f hf => hx i f (by simpa using hf)) (by simpa using hxl)
      refine ⟨cs, ?_, by omega⟩
      simp only [dAV, hu, k1]
      rw [if_pos (by omega)]
    case array k e =>
      simp only [Bool.and_eq_true] at hok
      obtain ⟨o1, o2⟩ := hok
      have o2 := beq_iff.1 o2
      obtain ⟨xs, m, hm, rfl, hl, hxl, hx⟩ := DataW.trod_array hu h
      cases hm
      have hall : ∀ (l : List (DataW H × List MemPlace)), (∀ y ∈ l, ∃ ci, DataW.trod enc P w base spare held n e ci = some y) → ∃ cs, dReps P e (l.map (·.1)) = some cs ∧ cs.length = l.length * P.cellsOf e := by
        intro l
        induction l with
        | nil => intro _; exact ⟨[], by simp [dReps], by simp⟩
        | cons y l ihl =>
          intro hl
          obtain ⟨ci, hci⟩ := hl y (by simp)
          obtain ⟨c, k1, k2⟩ := ih _ _ _ hci (hasNat_iff.1 o1)
          obtain ⟨r, hr, hrl⟩ := ihl fun z hz => hl z (by simp [hz])
          refine ⟨c ++ r, by simp only [List.map_cons, dReps, k1, k2, if_true, hr], ?_⟩
          simp only [List.length_append, List.length_cons, Nat.add_mul]
          omega
      obtain ⟨cs, k1, k2⟩ := hall xs fun y hy => by
        obtain ⟨i, hi⟩ := List.mem_iff_getElem?.1 hy
        have hlt : i < k := by
          have := (List.getElem?_eq_some_iff.1 hi).1
          omega
        have := hx i hlt
        rw [hi] at this
        exact ⟨_, this⟩
      refine ⟨cs, ?_, by rw [k2, hxl, o2]⟩
      simp only [dAV, hu]
      rw [if_pos (by simpa using hxl), k1]
      simp only
      rw [if_pos (by rw [k2, hxl, o2])]
end
end Go.Lt
namespace Go.Lt
open Go
variable {H : Type} {P : Program}

def dArgs (P : Program) : List TypeId → List (DataW H) → Option (List AV)
  | [], [] => some []
  | t :: ts, d :: ds => match dAV P t d with
    | some cs => match toV P t cs, dArgs P ts ds with
      | some v, some vs => some (v :: vs)
      | _, _ => none
    | none => none
  | _, _ => none

theorem okWide_formed {W : World} {r : Reach} {base : Nat} {t : TypeId} {v : Value} (h : Value.okWide P W r base t v) : v.formed P t = true := by
  unfold Value.okWide at h
  unfold Value.formed
  split at h
  · rename_i hu
    obtain ⟨cs, rfl, h1, _⟩ := h
    simp [hu, h1]
  · rename_i hu
    obtain ⟨cs, rfl, h1, _⟩ := h
    simp [hu, h1]
  · rename_i n1 n2
    unfold Cell.okWide Cell.ok at h
    have hcase : ∀ cs, v ≠ .agg cs := by
      rintro cs rfl
      simp only at h
      repeat' (first | contradiction | exact h | split at h)
    have hcase2 : ∀ cs, v ≠ .tuple cs := by
      rintro cs rfl
      simp only at h
      repeat' (first | contradiction | exact h | split at h)
    split
    · exact absurd rfl (hcase _)
    · exact absurd rfl (hcase2 _)
    · rfl

mutual
theorem dAV_own : ∀ (d : DataW H) (t : TypeId) (cs : List AV), dAV P t d = some cs → ∀ c ∈ cs, noOwn c
  | .lit l, t, cs, h => by
    cases l <;> unfold dAV at h <;> (repeat' (first | (cases h; done) | (cases h; intro c hc x xs hh; simp only [List.mem_singleton] at hc; subst hc; cases hh; done) | (split at h)))
  | .nil, t, cs, h => by
    unfold dAV at h
    split at h <;> cases h
    intro c hc x xs hh
    simp only [List.mem_singleton] at hc
    subst hc
    cases hh
  | .ptr _, t, cs, h => by unfold dAV at h; cases h
  | .slice _ _, t, cs, h => by
    unfold dAV at h
    repeat' (first | (cases h; done) | (cases h; intro c hc x xs hh; simp only [List.mem_singleton] at hc; subst hc; cases hh; done) | (split at h))
  | .agg parts, t, cs, h => by
    unfold dAV at h
    split at h <;> first | (cases h; done) | skip
    · split at h <;> first | (cases h; done) | skip
      rename_i c hc
      split at h <;> cases h
      exact dFields_own parts _ _ _ hc
    · split at h <;> first | (cases h; done) | skip
      split at h <;> first | (cases h; done) | skip
      rename_i c hc
      split at h <;> cases h
      exact dReps_own parts _ _ hc
  | .iface _ _, t, cs, h => by unfold dAV at h; cases h
  | .map _, t, cs, h => by
    unfold dAV at h
    repeat' (first | (cases h; done) | (cases h; intro c hc x xs hh; simp only [List.mem_singleton] at hc; subst hc; cases hh; done) | (split at h))
  | .held _, t, cs, h => by unfold dAV at h; cases h
theorem dFields_own : ∀ (ds : List (DataW H)) (fs : List Field) (off : Nat) (cs : List AV), dFields P fs off ds = some cs → ∀ c ∈ cs, noOwn c
  | [], fs, off, cs, h => by
    unfold dFields at h
    split at h <;> cases h
    intro c hc
    cases hc
  | d :: ds, fs, off, cs, h => by
    unfold dFields at h
    repeat' (first | (cases h; done) | (split at h))
    rename_i hc _ _ r hr
    cases h
    intro x hx
    rcases List.mem_append.1 hx with hx | hx
    · exact dAV_own d _ _ hc x hx
    · exact dFields_own ds _ _ _ hr x hx
theorem dReps_own : ∀ (ds : List (DataW H)) (e : TypeId) (cs : List AV), dReps P e ds = some cs → ∀ c ∈ cs, noOwn c
  | [], e, cs, h => by
    unfold dReps at h
    cases h
    intro c hc
    cases hc
  | d :: ds, e, cs, h => by
    unfold dReps at h
    repeat' (first | (cases h; done) | (split at h))
    rename_i hc _ _ r hr
    cases h
    intro x hx
    rcases List.mem_append.1 hx with hx | hx
    · exact dAV_own d _ _ hc x hx
    · exact dReps_own ds _ _ hr x hx
end
theorem toV_own {t : TypeId} {cs : List AV} {v : AV} (h : toV P t cs = some v) (hc : ∀ c ∈ cs, noOwn c) : noOwn v := by
  unfold toV at h
  split at h
  · cases h; intro x xs hh; cases hh
  · cases h; intro x xs hh; cases hh
  · split at h <;> cases h
    exact hc _ (by simp)
  · cases h

section
variable {enc : TypeId × Value → H} {w : World} {base : Nat} {spare : Nat → Bool} {held : Bool}
theorem dArgs_sound : ∀ {ts : List TypeId} {vs : List Value} {ds : List (DataW H)} {ps : List MemPlace} {as : List AV}, DataW.TrodAll enc P w base spare held ts vs ds ps → (∀ (j : Nat) (t : TypeId) (v : Value), ts[j]? = some t → vs[j]? = some v → v.formed P t = true) → dArgs P ts ds = some as →
    VRs (startG w) as vs ∧ ∀ c ∈ as, noOwn c
  | [], [], [], _, as, _, _, h => by
    unfold dArgs at h
    cases h
    exact ⟨.nil, fun c hc => by cases hc⟩
  | t :: ts, v :: vs, d :: ds, ps, as, hA, hf, h => by
    obtain ⟨p, q, ⟨n, h1⟩, h2, _⟩ := hA
    unfold dArgs at h
    split at h <;> first | (cases h; done) | skip
    rename_i cs hcs
    split at h <;> cases h
    rename_i x xs hx hxs
    obtain ⟨k1, k2⟩ := dAV_sound _ _ _ _ h1 cs hcs
    obtain ⟨j1, j2⟩ := dArgs_sound h2 (fun j t v ht hv => hf (j + 1) t v (by simpa using ht) (by simpa using hv)) hxs
    refine ⟨.cons _ _ _ _ (toV_sound (hf 0 t v rfl rfl) hx k1 k2) j1, fun c hc => ?_⟩
    rcases List.mem_cons.1 hc with rfl | hc
    · exact toV_own hx (dAV_own d t cs hcs)
    · exact j2 c hc
theorem toV_some {T : List TypeId} (hT : okSet P T = true) {e : TypeId} (he : e ∈ T) {c : List AV} (k2 : c.length = P.cellsOf e) : ∃ v, toV P e c = some v := by
  have hoe := List.all_eq_true.1 hT e he
  unfold okTy at hoe
  unfold toV
  split
  · exact ⟨_, rfl⟩
  · exact ⟨_, rfl⟩
  · rename_i d n1 n2 hue
    have h1 : P.cellsOf e = 1 := by
      rw [hue] at hoe
      cases d <;> simp only [Bool.false_eq_true, Bool.and_eq_true] at hoe
      · exact beq_iff.1 hoe
      · exact beq_iff.1 hoe
      · exact beq_iff.1 hoe
      · exact beq_iff.1 hoe.1.1
      · exact (n2 _ _ rfl).elim
      · exact (n1 _ rfl).elim
    rw [h1] at k2
    obtain ⟨z, rfl⟩ := List.length_eq_one_iff.1 k2
    exact ⟨z, rfl⟩
  · rename_i hue
    rw [hue] at hoe
    cases hoe
theorem dArgs_some {T : List TypeId} (hT : okSet P T = true) : ∀ {ts : List TypeId} {vs : List Value} {ds : List (DataW H)} {ps : List MemPlace}, DataW.TrodAll enc P w base spare held ts vs ds ps → (∀ t ∈ ts, t ∈ T) → ∃ as, dArgs P ts ds = some as
  | [], [], [], _, _, _ => ⟨[], by simp [dArgs]⟩
  | t :: ts, v :: vs, d :: ds, ps, hA, ht => by
    obtain ⟨p, q, ⟨n, h1⟩, h2, _⟩ := hA
    obtain ⟨cs, k1, k2⟩ := dAV_some hT _ _ _ _ h1 (ht t (by simp))
    obtain ⟨x, hx⟩ := toV_some hT (ht t (by simp)) k2
    obtain ⟨xs, hxs⟩ := dArgs_some hT h2 fun t' h => ht t' (by simp [h])
    exact ⟨x :: xs, by simp only [dArgs, k1, hx, hxs]⟩
end

/-- A LAW's CALL: it returns true, and what was there is as it was. -/
theorem law_calls {C : Cfg} (hT : Tied P C) {enc : TypeId × Value → H} {W : World} {base : Nat} {f : Nat} {ts : List TypeId} {args : Array Value} {ds : List (DataW H)} {ps : List MemPlace} {T : List TypeId}
    (hA : DataW.TrodAll enc P W 0 (fun _ => true) true ts args.toList ds ps) (hval : ∀ (j : Nat) (t : TypeId) (v : Value), ts[j]? = some t → args[j]? = some v → Value.okWide P W .any base t v)
    (hTs : okSet P T = true) (hts : ∀ t ∈ ts, t ∈ T) (hg : GlR C (startG W))
    (hlaw : ∀ as : List AV, dArgs P ts ds = some as → ∃ n, (acall C n (.fn f) as []).All fun r => ∃ h, r = (.ret (.bool true), h)) :
    Calls P f args W fun e W' => e = .returned (.bool true) ∧ W'.os = W.os ∧ W'.output = W.output ∧ ∀ i, i < W.heap.size → W'.heap[i]? = W.heap[i]? := by
  obtain ⟨as, has⟩ := dArgs_some hTs hA hts
  obtain ⟨n, hn⟩ := hlaw as has
  obtain ⟨h1, h2⟩ := dArgs_sound hA (fun j t v ht hv => okWide_formed (hval j t v ht (by simpa using hv))) has
  obtain ⟨_, hc⟩ := (all_sound hT n).1 f as [] _ hn
  have hAr : ArgsR (startG W) W as args.toList := ⟨h1, 0, fun i c v hci _ => ⟨fun _ => h2 c (List.mem_of_getElem? hci), fun _ => Own.of_ne (h2 c (List.mem_of_getElem? hci))⟩⟩
  have := callsIn_wide.1 (hc (startG W) W args.toList (start_rel _ W) (start_clean W) hg hAr)
  refine Calls.mono this fun e W' hr => ?_
  cases e with
  | returned v =>
    obtain ⟨u, h', G', ⟨h0, q1⟩, q2, q3, q4, _⟩ := hr
    cases q1
    cases q4
    obtain ⟨k1, k2, k3⟩ := start_kept q3
    exact ⟨rfl, k1, k2, k3⟩
  | panicked ch =>
    obtain ⟨u, h', G', pv, ⟨h0, q1⟩, _⟩ := hr
    cases q1
  | outgrown => exact hr.elim

/-- what is kept, as the rows say it -/
theorem kept_but {W W' : World} (ho : W'.os = W.os) (hu : W'.output = W.output) (hh : ∀ i, i < W.heap.size → W'.heap[i]? = W.heap[i]?) (may : MemPlace → Prop) : W.keptBut W' may := by
  refine ⟨ho, hu, fun i hi => ?_⟩
  rw [hh i hi]
  cases hq : W.heap[i]? with
  | none => rfl
  | some o => cases o <;> simp
theorem same_at {W W' : World} (hh : ∀ i, i < W.heap.size → W'.heap[i]? = W.heap[i]?) {p : MemPlace} (hp : p.block < W.heap.size) : W.sameAt W' p := by
  cases p with
  | cell b o =>
    have := hh b hp
    simp only [World.sameAt, World.cell?, this]
  | map b => exact hh b hp
end Go.Lt
namespace Go.Lt
open Go
variable {P : Program} {C : Cfg}

structure Memo where
  f : Nat
  as : List AV
  v : AV

def eqNats : List Nat → List Nat → Bool
  | [], [] => true
  | x :: xs, y :: ys => Nat.beq x y && eqNats xs ys
  | _, _ => false
theorem eqNats_eq : ∀ {x y : List Nat}, eqNats x y = true → x = y
  | [], [], _ => rfl
  | [], _ :: _, h => by simp [eqNats] at h
  | _ :: _, [], h => by simp [eqNats] at h
  | x :: xs, y :: ys, h => by
    simp only [eqNats, Bool.and_eq_true] at h
    rw [beq_iff.1 h.1, eqNats_eq h.2]
mutual
def eqAV : AV → AV → Bool
  | .bool a, .bool b => a == b
  | .int k n, .int k' m => decide (k = k') && decide (n = m)
  | .str a, .str b => eqNats a b
  | .agg a, .agg b => eqAVs a b
  | .tup a, .tup b => eqAVs a b
  | .sl o a, .sl o' b => (o == o') && eqAVs a b
  | .nptr, .nptr => true
  | .nifc, .nifc => true
  | _, _ => false
def eqAVs : List AV → List AV → Bool
  | [], [] => true
  | a :: x, b :: y => eqAV a b && eqAVs x y
  | _, _ => false
end
mutual
theorem eqAV_eq : ∀ (a b : AV), eqAV a b = true → a = b
  | .bool a, b, h => by cases b <;> simp [eqAV] at h; rw [h]
  | .int k n, b, h => by cases b <;> simp [eqAV] at h; rw [h.1, h.2]
  | .str a, b, h => by cases b <;> simp only [eqAV, Bool.false_eq_true] at h; rw [eqNats_eq h]
  | .agg a, b, h => by cases b <;> simp only [eqAV, Bool.false_eq_true] at h; rw [eqAVs_eq a _ h]
  | .tup a, b, h => by cases b <;> simp only [eqAV, Bool.false_eq_true] at h; rw [eqAVs_eq a _ h]
  | .sl o a, b, h => by
    cases b <;> simp only [eqAV, Bool.false_eq_true, Bool.and_eq_true, beq_iff_eq] at h
    rw [h.1, eqAVs_eq a _ h.2]
  | .nptr, b, h => by cases b <;> simp [eqAV] at h; rfl
  | .nifc, b, h => by cases b <;> simp [eqAV] at h; rfl
  | .undef, b, h => by cases b <;> simp [eqAV] at h
  | .cptr _, b, h => by cases b <;> simp [eqAV] at h
  | .lptr _ _, b, h => by cases b <;> simp [eqAV] at h
  | .hptr _ _, b, h => by cases b <;> simp [eqAV] at h
  | .hsl _ _ _ _, b, h => by cases b <;> simp [eqAV] at h
  | .fn _ _ _, b, h => by cases b <;> simp [eqAV] at h
  | .yld _, b, h => by cases b <;> simp [eqAV] at h
  | .nfn, b, h => by cases b <;> simp [eqAV] at h
  | .ifc _ _, b, h => by cases b <;> simp [eqAV] at h
  | .cmap _, b, h => by cases b <;> simp [eqAV] at h
  | .hmap _, b, h => by cases b <;> simp [eqAV] at h
  | .nmap, b, h => by cases b <;> simp [eqAV] at h
theorem eqAVs_eq : ∀ (a b : List AV), eqAVs a b = true → a = b
  | [], b, h => by cases b <;> simp [eqAVs] at h; rfl
  | x :: a, b, h => by
    cases b <;> simp only [eqAVs, Bool.false_eq_true, Bool.and_eq_true] at h
    rw [eqAV_eq x _ h.1, eqAVs_eq a _ h.2]
end
def memoRun : List Memo → Nat → List AV → Option AV
  | [], _, _ => none
  | m :: r, f, as => match Nat.beq m.f f && eqAVs m.as as with
    | true => some m.v
    | false => memoRun r f as
def memoHas : List Memo → Nat → Bool
  | [], _ => false
  | m :: r, f => Nat.beq m.f f || memoHas r f
def Cfg.memo (C : Cfg) (l : List Memo) : Cfg :=
  { C with prim := fun f => match memoHas l f with
      | true => some fun as h => match h with
        | [] => match memoRun l f as with
          | some v => some (v, [])
          | none => none
        | _ => none
      | false => C.prim f }

/-- the heap forgotten -/
theorem OutR.drop {G : Gho} {w : World} {u : AV} (hst : StRel (COk P) G [] w) (hp : u.pure = true) {e : Ending} {w' : World} (h : OutR (COk P) G w (fun r => ∃ h', r = (.ret u, h')) e w') : OutR (COk P) G w (fun r => r = (.ret u, [])) e w' := by
  cases e with
  | returned v =>
    obtain ⟨u', h', G', ⟨h0, q1⟩, q2, q3, q4, q5⟩ := h
    cases q1
    have hnh : ∀ b i, G.role b ≠ .heap i := by
      intro b i hb
      obtain ⟨_, _, k, _⟩ := hst.heap b i hb
      simp at k
    refine ⟨u, [], G'.hide true .out G'.mrk, rfl, q2.hideP, ⟨⟨q3.gle.con, q3.gle.obj, fun b i hb => absurd hb (hnh b i)⟩, q3.size, q3.os, q3.out, q3.tape, fun k hk hr => ?_, q3.cons, q3.mrk, q3.objs⟩,
      (VR.ofPure_all (G := G') (G' := G'.hide true .out G'.mrk) ⟨fun _ _ _ h => h, fun _ _ h => h⟩).1 q4 hp, q5.hide⟩
    obtain ⟨k1, k2⟩ := q3.same k hk hr
    exact ⟨k1, hide_none' k2⟩
  | panicked ch =>
    obtain ⟨u', h', G', pv, ⟨h0, q1⟩, _⟩ := h
    cases q1
  | outgrown => exact h

theorem memoHas_iff {l : List Memo} {f : Nat} : memoHas l f = true ↔ ∃ m ∈ l, m.f = f := by
  induction l with
  | nil => simp [memoHas]
  | cons m r ih =>
    simp only [memoHas, Bool.or_eq_true, ih, beq_iff, List.mem_cons, exists_eq_or_imp]
theorem memoRun_spec {l : List Memo} {f : Nat} {as : List AV} {v : AV} (h : memoRun l f as = some v) : ∃ m ∈ l, m.f = f ∧ m.as = as ∧ m.v = v := by
  induction l with
  | nil => cases h
  | cons m r ih =>
    simp only [memoRun] at h
    split at h
    · rename_i hc
      simp only [Bool.and_eq_true] at hc
      cases h
      exact ⟨m, by simp, beq_iff.1 hc.1, eqAVs_eq _ _ hc.2, rfl⟩
    · obtain ⟨k, h1, h2⟩ := ih h
      exact ⟨k, by simp [h1], h2⟩

def isRet (v : AV → Bool) : T (AOut × List Blk) → Bool
  | .ret (.ret u, _) => v u
  | _ => false

theorem Tied.memo (hT : Tied P C) {l : List Memo} (hv : ∀ m ∈ l, m.v.pure = true ∧ C.dok m.f = false ∧ ∃ C', Tied P C' ∧ C'.gl = C.gl ∧ ∃ n, (acall C' n (.fn m.f) m.as []).All fun r => ∃ h, r = (.ret m.v, h)) : Tied P (C.memo l) where
  prim f φ hφ := by
    simp only [Cfg.memo] at hφ
    split at hφ
    · rename_i hh
      cases hφ
      obtain ⟨m0, hm0, rfl⟩ := memoHas_iff.1 hh
      obtain ⟨_, _, C0, hT0, _, n0, hn0⟩ := hv m0 hm0
      refine ⟨((all_sound hT0 n0).1 m0.f m0.as [] _ hn0).1, fun as h v h' hr G w cs hst hcl hgl hA => ?_⟩
      simp only at hr
      split at hr <;> first | (cases hr; done) | skip
      split at hr <;> cases hr
      rename_i hr
      obtain ⟨m, hm, k1, rfl, rfl⟩ := memoRun_spec hr
      obtain ⟨hp, _, C1, hT1, hg1, n, hn⟩ := hv m hm
      rw [k1] at hn
      exact CallsIn.mono (((all_sound hT1 n).1 m0.f m.as [] _ hn).2 G w cs hst hcl (fun g hne => by rw [hg1] at hne ⊢; exact hgl g hne) hA) fun e w' he => OutR.drop hst hp he
    · exact hT.prim f φ hφ
  fn f af hp hf := by
    simp only [Cfg.memo] at hp
    split at hp
    · cases hp
    · exact hT.fn f af hp hf
  dok f hd := by
    have hd : C.dok f = true := hd
    refine ⟨?_, (hT.dok f hd).2⟩
    simp only [Cfg.memo]
    split
    · rename_i hh
      obtain ⟨m, hm, rfl⟩ := memoHas_iff.1 hh
      rw [(hv m hm).2.1] at hd
      cases hd
    · exact (hT.dok f hd).1
  catch_ := hT.catch_
  gl := hT.gl

theorem isRet_all {v : AV} {t : T (AOut × List Blk)} (h : isRet (eqAV v) t = true) : t.All fun r => ∃ h, r = (.ret v, h) := by
  unfold isRet at h
  split at h <;> first | (cases h; done) | skip
  have := eqAV_eq _ _ h
  subst this
  exact ⟨_, rfl⟩
end Go.Lt
namespace Go.Lt
inductive FT where
  | leaf
  | node (l : FT) (k : Nat) (v : AFun) (r : FT)
def FT.get : FT → Nat → Option AFun
  | .leaf, _ => none
  | .node l k v r, n => match Nat.beq n k with
    | true => some v
    | false => match Nat.blt n k with
      | true => l.get n
      | false => r.get n
def FT.All (p : Nat → AFun → Prop) : FT → Prop
  | .leaf => True
  | .node l k v r => l.All p ∧ p k v ∧ r.All p
theorem FT.get_all {p : Nat → AFun → Prop} : ∀ {t : FT}, t.All p → ∀ {n : Nat} {v : AFun}, t.get n = some v → p n v
  | .leaf, _, n, v, h => by cases h
  | .node l k u r, ⟨h1, h2, h3⟩, n, v, h => by
    simp only [FT.get] at h
    split at h
    · rename_i he
      cases h
      rw [show n = k from Nat.eq_of_beq_eq_true he]
      exact h2
    · split at h
      · exact FT.get_all h1 h
      · exact FT.get_all h3 h
end Go.Lt
namespace Go.Lt
def gKeys : AV := .cmap ([[97, 116, 111, 109, 105, 99], [98, 111, 116, 104], [100, 105, 115, 97, 98, 108, 101], [101, 108, 115, 101], [101, 110, 97, 98, 108, 101], [102, 117, 110, 99], [105, 51, 50], [105, 102], [108, 101, 118, 101, 108], [109, 97, 105, 110], [111, 110], [112, 111, 114, 116], [112, 114, 105, 111], [114, 101, 97, 100], [114, 101, 116, 117, 114, 110], [115, 116, 97, 99, 107], [117, 49, 54], [117, 51, 50], [117, 56], [119, 104, 105, 108, 101], [119, 114, 105, 116, 101]].map fun s => (AV.str s, AV.agg []))
def gTypes : AV := .cmap [(.str [105, 51, 50], .int .i64 4), (.str [117, 49, 54], .int .i64 2), (.str [117, 51, 50], .int .i64 3), (.str [117, 56], .int .i64 1)]
def gSigns : AV := .cmap [(.str [33, 61], .int .i64 15), (.str [37], .int .i64 5), (.str [38], .int .i64 8), (.str [42], .int .i64 3), (.str [43], .int .i64 1), (.str [45], .int .i64 2), (.str [47], .int .i64 4), (.str [60], .int .i64 16), (.str [60, 60], .int .i64 11), (.str [60, 61], .int .i64 17), (.str [61, 61], .int .i64 14), (.str [62], .int .i64 20), (.str [62, 61], .int .i64 21), (.str [62, 62], .int .i64 12), (.str [94], .int .i64 10), (.str [124], .int .i64 9)]
def strs (l : List (List Nat)) : AV := .sl false (l.map .str)
def gLevels : List AV := [.sl false [], strs [[124]], strs [[94]], strs [[38]], strs [[61, 61], [33, 61]], strs [[60], [60, 61], [62], [62, 61]], strs [[60, 60], [62, 62]], strs [[43], [45]], strs [[42], [47], [37]]]
/-- "<< >> == != <= >=" -/
def twoSigns : List Nat := [60, 60, 32, 62, 62, 32, 61, 61, 32, 33, 61, 32, 60, 61, 32, 62, 61]
/-- strings.Contains of that text and of two bytes that are no blanks -/
def primContains (args : List AV) (h : List Blk) : Option (AV × List Blk) :=
  match args with
  | [.str s, .str [a, b]] => match cellsEqL s twoSigns && (!Nat.beq a 32 && !Nat.beq b 32) with
    | true => some (.bool (match idxS [a, b] twoSigns 0 with
      | some _ => true
      | none => false), h)
    | false => none
  | _ => none
where cellsEqL : List Nat → List Nat → Bool
  | [], [] => true
  | x :: xs, y :: ys => Nat.beq x y && cellsEqL xs ys
  | _, _ => false
end Go.Lt
namespace Go.Lt
open Go
/-- the order of numbers, by the naturals' own test -/
def leK : Int → Int → Bool
  | .ofNat a, .ofNat b => Nat.ble a b
  | .ofNat _, .negSucc _ => false
  | .negSucc _, .ofNat _ => true
  | .negSucc a, .negSucc b => Nat.ble b a
theorem leK_eq (a b : Int) : leK a b = decide (a ≤ b) := by
  rw [Bool.eq_iff_iff, decide_eq_true_iff]
  cases a <;> cases b <;> simp only [leK, Nat.ble_eq, Bool.false_eq_true, Int.ofNat_eq_natCast, Int.negSucc_eq, true_iff, false_iff] <;> omega
/-- the greatest number of a kind -/
def maxK : IntKind → Nat
  | .i8 => 127
  | .i16 => 32767
  | .i32 => 2147483647
  | .i64 => 9223372036854775807
  | .u8 => 255
  | .u16 => 65535
  | .u32 => 4294967295
  | .u64 => 18446744073709551615
def wrapK (k : IntKind) (n : Int) : Int :=
  match n with
  | .ofNat m => match Nat.ble m (maxK k) with
    | true => .ofNat m
    | false => k.wrap (.ofNat m)
  | .negSucc m => k.wrap (.negSucc m)
theorem wrapK_eq (k : IntKind) (n : Int) : wrapK k n = k.wrap n := by
  unfold wrapK
  split
  · split
    · rename_i m hm
      rw [Nat.ble_eq] at hm
      cases k <;> simp only [maxK] at hm <;> simp [IntKind.wrap, IntKind.bits, IntKind.signed] <;> omega
    · rfl
  · rfl
def binK (c : Nat) (op : BinOp) (x y : AV) : Option AV :=
  match x, y with
  | .int k a, .int k' b => match decide (k = k') with
    | true => match op with
      | .add => some (.int k (wrapK k (a + b)))
      | .sub => some (.int k (wrapK k (a - b)))
      | .mul => some (.int k (wrapK k (a * b)))
      | .lss => some (.bool (!leK b a))
      | .leq => some (.bool (leK a b))
      | .gtr => some (.bool (!leK a b))
      | .geq => some (.bool (leK b a))
      | op => binA c op (.int k a) (.int k' b)
    | false => binA c op (.int k a) (.int k' b)
  | x, y => binA c op x y
theorem binK_eq (c : Nat) (op : BinOp) (x y : AV) : binK c op x y = binA c op x y := by
  unfold binK
  split
  · split
    · rename_i hk
      rw [decide_eq_true_iff] at hk
      subst hk
      split <;> simp only [binA, arithA, intOp, if_true, leK_eq, wrapK_eq] <;> congr 2 <;> rw [Bool.eq_iff_iff] <;> simp <;> omega
    · rfl
  · rfl
section
variable (C : Cfg)
def kMv (x : AO) (s : St) : Option (AV × St) := match Env.o C s.e x with
    | .undef => none
    | v => some (v, { s with e := s.e.untake x })
def kPick (c : AO) (a : AO) (b : AO) (s : St) : Option (AV × St) := match Env.v C s.e c with
    | .bool true => match Env.v C s.e a with
      | .undef => none
      | v => some (v, s)
    | .bool false => match Env.v C s.e b with
      | .undef => none
      | v => some (v, s)
    | _ => none
def kAllocL (i : Nat) (z : List AV) (s : St) : Option (AV × St) := some (.lptr i 0, { s with e := s.e.purge i, l := s.l.set i z })
def kAllocH (z : List AV) (s : St) : Option (AV × St) := some (.hptr s.h.length 0, { s with h := s.h ++ [.cells z] })
def kBoxC (x : AO) (s : St) : Option (AV × St) := let v := Env.v C s.e x
    match v.ok with
    | true => some (.cptr (v.cells.map AV.nrm0), s)
    | false => none
def kBoxL (i : Nat) (x : AO) (s : St) : Option (AV × St) := let v := Env.v C s.e x
    match v.ok with
    | true => some (.lptr i 0, { s with e := s.e.purge i, l := s.l.set i (v.cells.map AV.clr) })
    | false => none
def kBoxH (x : AO) (s : St) : Option (AV × St) := let v := Env.v C s.e x
    match v.ok with
    | true => some (.hptr s.h.length 0, { s with h := s.h ++ [.cells (v.cells.map AV.clr)] })
    | false => none
def kBuild (z : List AV) (ps : List (Nat × Nat × AO)) (s : St) : Option (AV × St) := match fillParts C s.e z ps with
    | some cs => some (.agg cs, s)
    | none => none
def kBsl (n : Nat) (es : Nat) (z : AV) (ps : List (Nat × AO)) (s : St) : Option (AV × St) := match fillElems C es s.e (List.replicate n z.nrm) ps with
    | some xs => match Nat.beq z.cells.length es && z.ok with
      | true => some (.sl true xs, s)
      | false => none
    | none => none
def kLdC (sh : Option Nat) (x : AO) (s : St) : Option (AV × St) := match Env.v C s.e x with
    | .cptr cs => match readSh sh cs with
      | some v => some (v.clr, s)
      | none => none
    | _ => none
def kLdL (sh : Option Nat) (x : AO) (tk : Bool) (s : St) : Option (AV × St) := match Env.v C s.e x with
    | .lptr i off => match s.l.get i with
      | some cs => match readSh sh (cs.drop off) with
        | some v => match tk with
          | true => some (v, { s with l := s.l.set i (cs.set off v.clr) })
          | false => some (v.clr, s)
        | none => none
      | none => none
    | _ => none
def kLdH (sh : Option Nat) (x : AO) (tk : Bool) (s : St) : Option (AV × St) := match Env.v C s.e x with
    | .hptr i off => match hget s.h i with
      | some cs => match readSh sh (cs.drop off) with
        | some v => match tk with
          | true => some (v, { s with h := s.h.set i (.cells (cs.set off v.clr)) })
          | false => some (v.clr, s)
        | none => none
      | none => none
    | _ => none
def kStL (n : Nat) (x : AO) (v : AO) (s : St) : Option (AV × St) := match Env.v C s.e x with
    | .lptr i off => match s.l.get i with
      | some cs => let u := Env.o C s.e v
        match Nat.beq u.cells.length n && allLeaf u.cells with
        | true => match splice cs off (match u with | .agg us => us.map AV.clr | u => [u]) with
          | some cs' => some (.undef, { s with e := s.e.untake v, l := s.l.set i cs' })
          | none => none
        | false => none
      | none => none
    | _ => none
def kStH (n : Nat) (x : AO) (v : AO) (s : St) : Option (AV × St) := match Env.v C s.e x with
    | .hptr i off => match hget s.h i with
      | some cs => let u := Env.o C s.e v
        match Nat.beq u.cells.length n && allLeaf u.cells with
        | true => match splice cs off (match u with | .agg us => us.map AV.clr | u => [u]) with
          | some cs' => some (.undef, { s with e := s.e.untake v, h := s.h.set i (.cells cs') })
          | none => none
        | false => none
      | none => none
    | _ => none
def kNilck (x : AO) (s : St) : Option (AV × St) := match Env.v C s.e x with
    | .cptr cs => some (.cptr cs, s)
    | .lptr i o => some (.lptr i o, s)
    | .hptr i o => some (.hptr i o, s)
    | .fn f a b => some (.fn f a b, s)
    | _ => none
def kBin (c : Nat) (op : BinOp) (x : AO) (y : AO) (s : St) : Option (AV × St) := match binK c op (Env.v C s.e x) (Env.v C s.e y) with
    | some v => some (v, s)
    | none => none
def kUn (op : UnOp) (x : AO) (s : St) : Option (AV × St) := match unA op (Env.v C s.e x) with
    | some v => some (v, s)
    | none => none
def kEqS (neg : Bool) (ks : List Nat) (x : AO) (y : AO) (s : St) : Option (AV × St) := match Env.v C s.e x, Env.v C s.e y with
    | .agg a, .agg b => match cellsEqK ks a b with
      | some r => some (.bool (match neg with | true => !r | false => r), s)
      | none => none
    | _, _ => none
def kCvI (k : IntKind) (x : AO) (s : St) : Option (AV × St) := match Env.v C s.e x with
    | .int _ n => some (.int k (k.wrap n), s)
    | _ => none
def kS2b (x : AO) (s : St) : Option (AV × St) := match Env.v C s.e x with
    | .str l => some (.sl false (l.map fun (c : Nat) => AV.int .u8 (c : Int)), s)
    | _ => none
def kIfc (t : Nat) (x : AO) (s : St) : Option (AV × St) := let v := Env.v C s.e x
    match v.ok with
    | true => some (.ifc t v.nrm, s)
    | false => none
def kMkfn (f : Nat) (first : List AO) (cap : List AO) (s : St) : Option (AV × St) := let a := (Env.vs C s.e first).map AV.nrm
    let b := (Env.vs C s.e cap).map AV.nrm
    match allOk a && allOk b with
    | true => some (.fn f a b, s)
    | false => none
def kFad (off : Nat) (x : AO) (s : St) : Option (AV × St) := match Env.v C s.e x with
    | .cptr cs => some (.cptr (cs.drop off), s)
    | .lptr i o => some (.lptr i (o + off), s)
    | .hptr i o => some (.hptr i (o + off), s)
    | _ => none
def kFld (off : Nat) (sh : Option Nat) (x : AO) (s : St) : Option (AV × St) := match Env.v C s.e x with
    | .agg cs => match readSh sh (cs.drop off) with
      | some v => some (v.clr, s)
      | none => none
    | _ => none
def kIad (es : Nat) (x : AO) (i : AO) (s : St) : Option (AV × St) := match Env.v C s.e x, Env.v C s.e i with
    | .sl _ xs, .int _ n =>
      if 0 ≤ n then match xs[n.toNat]? with
        | some v => match Nat.beq v.cells.length es with
          | true => some (.cptr v.cells, s)
          | false => none
        | none => none
      else none
    | .hsl b o es' k, .int _ n =>
      if 0 ≤ n then match Nat.blt n.toNat k && Nat.beq es' es with
        | true => some (.hptr b (o + n.toNat * es), s)
        | false => none
      else none
    | _, _ => none
def kIaa (m : Nat) (es : Nat) (x : AO) (i : AO) (s : St) : Option (AV × St) := match Env.v C s.e x, Env.v C s.e i with
    | .cptr cs, .int _ n => if 0 ≤ n ∧ n < m then some (.cptr (cs.drop (n.toNat * es)), s) else none
    | _, _ => none
def kIxs (x : AO) (i : AO) (s : St) : Option (AV × St) := match Env.v C s.e x, Env.v C s.e i with
    | .str l, .int _ n => if 0 ≤ n then match l[n.toNat]? with
        | some c => some (.int .u8 c, s)
        | none => none
      else none
    | _, _ => none
def kIxa (m : Nat) (es : Nat) (sh : Option Nat) (x : AO) (i : AO) (s : St) : Option (AV × St) := match Env.v C s.e x, Env.v C s.e i with
    | .agg cs, .int _ n => if 0 ≤ n ∧ n < m then match readSh sh (cs.drop (n.toNat * es)) with
        | some v => some (v.clr, s)
        | none => none
      else none
    | _, _ => none
def kSlc (es : Nat) (x : AO) (lo : Option AO) (hi : Option AO) (s : St) : Option (AV × St) := match Env.v C s.e x with
    | .sl _ xs => match optInt C s.e 0 lo, optInt C s.e xs.length hi with
      | some a, some b => match bounds a b xs.length with
        | some (i, j) => match headEs es xs with
          | true => some (.sl false ((xs.take j).drop i), s)
          | false => none
        | none => none
      | _, _ => none
    | _ => none
def kSls (x : AO) (lo : Option AO) (hi : Option AO) (s : St) : Option (AV × St) := match Env.v C s.e x with
    | .str l => match optInt C s.e 0 lo, optInt C s.e l.length hi with
      | some a, some b => match bounds a b l.length with
        | some (i, j) => some (.str ((l.take j).drop i), s)
        | none => none
      | _, _ => none
    | _ => none
def kExt (x : AO) (i : Nat) (s : St) : Option (AV × St) := match Env.v C s.e x with
    | .tup vs => match vs[i]? with
      | some v => match v.ok with
        | true => some (v.clr, s)
        | false => none
      | none => none
    | _ => none
def kLen (c : Nat) (x : AO) (s : St) : Option (AV × St) := match c, Env.v C s.e x with
    | 0, .str l => some (.int .i64 l.length, s)
    | 1, .sl _ xs => some (.int .i64 xs.length, s)
    | 1, .hsl _ _ _ n => some (.int .i64 n, s)
    | 2, .cmap es => some (.int .i64 es.length, s)
    | 2, .hmap i => match hgetM s.h i with
      | some es => some (.int .i64 es.length, s)
      | none => none
    | _, _ => none
def kMx (x : AO) (r : List AO) (s : St) : Option (AV × St) := match intsOf (Env.vs C s.e (x :: r)) with
    | some (k, n :: l) => some (.int k (l.foldl (fun a b => if b > a then b else a) n), s)
    | _ => none
def kMn (x : AO) (r : List AO) (s : St) : Option (AV × St) := match intsOf (Env.vs C s.e (x :: r)) with
    | some (k, n :: l) => some (.int k (l.foldl (fun a b => if b < a then b else a) n), s)
    | _ => none
def kApp (es : Nat) (x : AO) (y : AO) (s : St) : Option (AV × St) := match Env.o C s.e x, Env.v C s.e y with
    | .sl true xs, .sl _ ys => match Nat.ble (xs.length + ys.length) 2147483648 && headEs es xs && headEs es ys with
      | true => some (.sl true (xs ++ ys), { s with e := s.e.untake x })
      | false => none
    | _, _ => none
def kAppH (es : Nat) (x : AO) (y : AO) (s : St) : Option (AV × St) := match Env.o C s.e x, Env.v C s.e y with
    | .sl true [], .sl _ [] => some (.sl true [], s)
    | .sl true [], .sl _ (y :: ys) => match Nat.ble (y :: ys).length 2147483648 && headEs es (y :: ys) with
      | true => some (.hsl s.h.length 0 es (y :: ys).length, { s with h := s.h ++ [.cells (((y :: ys).flatMap AV.cells).map AV.clr)] })
      | false => none
    | _, _ => none
def kLkp (c : Nat) (ok : Bool) (z : AV) (m : AO) (k : AO) (s : St) : Option (AV × St) :=
    match keyOk c (Env.v C s.e k) with
    | true =>
      let r := match Env.v C s.e m with
        | .cmap es => findM (Env.v C s.e k) es
        | .hmap i => match hgetM s.h i with
          | some es => findM (Env.v C s.e k) es
          | none => none
        | .nmap => some none
        | _ => none
      match r with
      | some (some v) => some (match ok with | true => .tup [v, .bool true] | false => v.clr, s)
      | some none => some (match ok with | true => .tup [z, .bool false] | false => z.clr, s)
      | none => none
    | false => none
def kLkpC (c : Nat) (ok : Bool) (z : AV) (m : AO) (k : AO) (s : St) : Option (AV × St) :=
    match keyOk c (Env.v C s.e k) with
    | true =>
      let r := match Env.v C s.e m with
        | .cmap es => findM (Env.v C s.e k) es
        | .nmap => some none
        | _ => none
      match r with
      | some (some v) => some (match ok with | true => .tup [v, .bool true] | false => v.clr, s)
      | some none => some (match ok with | true => .tup [z, .bool false] | false => z.clr, s)
      | none => none
    | false => none
def kIxB (_u0 : Nat) (x : AO) (y : AO) (s : St) : Option (AV × St) := match Env.v C s.e x, Env.v C s.e y with
    | .str l, .int .u8 n => match Nat.blt n.toNat 256 with
      | true => some (optIdx (idxB n.toNat l 0), s)
      | false => none
    | _, _ => none
def kIxS (_u0 : Nat) (g : Nat) (x : AO) (y : AO) (s : St) : Option (AV × St) := match Env.v C s.e x, Env.v C s.e y, C.gl g with
    | .str l, .str m, .cptr (.int .i64 n :: _) => match Nat.ble 2 m.length && Nat.blt l.length 4294967281 && leK (Int.ofNat m.length) n with
      | true => some (optIdx (idxS m l 0), s)
      | false => none
    | _, _, _ => none
def kMkmap  (s : St) : Option (AV × St) := some (.hmap s.h.length, { s with h := s.h ++ [.map []] })
def kMapset (c : Nat) (m : AO) (k : AO) (v : AO) (s : St) : Option (AV × St) := let u := Env.v C s.e v
    match Env.v C s.e m, u.ok && keyOk c (Env.v C s.e k) with
    | .hmap i, true => match hgetM s.h i with
      | some es => match setM (Env.v C s.e k) u es with
        | some es' => some (.undef, { s with h := s.h.set i (.map es') })
        | none => none
      | none => none
    | _, _ => none
def kTas (t : Nat) (ok : Bool) (z : AV) (x : AO) (s : St) : Option (AV × St) := match Env.v C s.e x with
    | .ifc t' v => match Nat.beq t' t with
      | true => some (match ok with | true => .tup [v, .bool true] | false => v.clr, s)
      | false => match ok with
        | true => some (.tup [z, .bool false], s)
        | false => none
    | .nifc => match ok with
      | true => some (.tup [z, .bool false], s)
      | false => none
    | _ => none
def kDfr (f : AO) (args : List AO) (s : St) : Option (AV × St) := match Env.v C s.e f with
    | .fn g a b => let as := (Env.vs C s.e args).map AV.nrm
      match allOk as with
      | true => some (.undef, { s with d := (.fn g a b, as) :: s.d })
      | false => none
    | _ => none
end
section
variable (C : Cfg)
def kFin (d : Option Nat) : Option (AV × St) → T (Option AV × St)
  | some (v, s') => .ret (none, s'.put d v)
  | none => .fail
def kPan (d : AV) (s : St) : T (Option AV × St) :=
  match d with
  | .ifc t v => .ret (some (.ifc t v), s)
  | _ => .fail
def kRetP (d : Option Nat) (args : List AO) (s : St) (r' : AOut × List Blk) : T (Option AV × St) :=
  match r' with
  | (.ret v, _) => match v.pure with
    | true => .ret (none, St.put { s with e := s.e.untakes args } d v)
    | false => .fail
  | (.pan v, _) => match v.pure with
    | true => .ret (some v, { s with e := s.e.untakes args })
    | false => .fail
def kRetH (d : Option Nat) (args : List AO) (s : St) (r' : AOut × List Blk) : T (Option AV × St) :=
  match r' with
  | (.ret v, h) => match v.nol with
    | true => .ret (none, St.put { s with e := s.e.untakes args, h := h } d v)
    | false => .fail
  | (.pan v, h) => .ret (some v, { s with e := s.e.untakes args, h := h })
def kCall (call : Call) (d : Option Nat) (pur : Bool) (f : AO) (args : List AO) (s : St) : T (Option AV × St) :=
  let as := args.map (Env.arg C s.e)
  match allOk as, callee (Env.v C s.e f) as with
  | true, some (c, as) =>
    match pur with
    | true => match (Env.v C s.e f).pure && AV.pures as with
      | true => (call c as []).bind (kRetP d args s)
      | false => .fail
    | false => (call c as s.h).bind (kRetH d args s)
  | _, _ => .fail
def opK (call : Call) (d : Option Nat) (op : AOp) (s : St) : T (Option AV × St) :=
  match op with
  | .pan x => kPan (Env.v C s.e x) s
  | .call pur f args => kCall C call d pur f args s
  | .mv a0 => kFin d (kMv C a0 s)
  | .pick a0 a1 a2 => kFin d (kPick C a0 a1 a2 s)
  | .allocL a0 a1 => kFin d (kAllocL a0 a1 s)
  | .allocH a0 => kFin d (kAllocH a0 s)
  | .boxC a0 => kFin d (kBoxC C a0 s)
  | .boxL a0 a1 => kFin d (kBoxL C a0 a1 s)
  | .boxH a0 => kFin d (kBoxH C a0 s)
  | .build a0 a1 => kFin d (kBuild C a0 a1 s)
  | .bsl a0 a1 a2 a3 => kFin d (kBsl C a0 a1 a2 a3 s)
  | .ldC a0 a1 => kFin d (kLdC C a0 a1 s)
  | .ldL a0 a1 a2 => kFin d (kLdL C a0 a1 a2 s)
  | .ldH a0 a1 a2 => kFin d (kLdH C a0 a1 a2 s)
  | .stL a0 a1 a2 => kFin d (kStL C a0 a1 a2 s)
  | .stH a0 a1 a2 => kFin d (kStH C a0 a1 a2 s)
  | .nilck a0 => kFin d (kNilck C a0 s)
  | .bin a0 a1 a2 a3 => kFin d (kBin C a0 a1 a2 a3 s)
  | .un a0 a1 => kFin d (kUn C a0 a1 s)
  | .eqS a0 a1 a2 a3 => kFin d (kEqS C a0 a1 a2 a3 s)
  | .cvI a0 a1 => kFin d (kCvI C a0 a1 s)
  | .s2b a0 => kFin d (kS2b C a0 s)
  | .ifc a0 a1 => kFin d (kIfc C a0 a1 s)
  | .mkfn a0 a1 a2 => kFin d (kMkfn C a0 a1 a2 s)
  | .fad a0 a1 => kFin d (kFad C a0 a1 s)
  | .fld a0 a1 a2 => kFin d (kFld C a0 a1 a2 s)
  | .iad a0 a1 a2 => kFin d (kIad C a0 a1 a2 s)
  | .iaa a0 a1 a2 a3 => kFin d (kIaa C a0 a1 a2 a3 s)
  | .ixs a0 a1 => kFin d (kIxs C a0 a1 s)
  | .ixa a0 a1 a2 a3 a4 => kFin d (kIxa C a0 a1 a2 a3 a4 s)
  | .slc a0 a1 a2 a3 => kFin d (kSlc C a0 a1 a2 a3 s)
  | .sls a0 a1 a2 => kFin d (kSls C a0 a1 a2 s)
  | .ext a0 a1 => kFin d (kExt C a0 a1 s)
  | .len a0 a1 => kFin d (kLen C a0 a1 s)
  | .mx a0 a1 => kFin d (kMx C a0 a1 s)
  | .mn a0 a1 => kFin d (kMn C a0 a1 s)
  | .app a0 a1 a2 => kFin d (kApp C a0 a1 a2 s)
  | .appH a0 a1 a2 => kFin d (kAppH C a0 a1 a2 s)
  | .lkp a0 a1 a2 a3 a4 => kFin d (kLkp C a0 a1 a2 a3 a4 s)
  | .lkpC a0 a1 a2 a3 a4 => kFin d (kLkpC C a0 a1 a2 a3 a4 s)
  | .ixB a0 a1 a2 => kFin d (kIxB C a0 a1 a2 s)
  | .ixS a0 a1 a2 a3 => kFin d (kIxS C a0 a1 a2 a3 s)
  | .mkmap => kFin d (kMkmap  s)
  | .mapset a0 a1 a2 a3 => kFin d (kMapset C a0 a1 a2 a3 s)
  | .tas a0 a1 a2 a3 => kFin d (kTas C a0 a1 a2 a3 s)
  | .dfr a0 a1 => kFin d (kDfr C a0 a1 s)
def stepK (call : Call) (o : AOper) (s : St) : T (Option AV × St) :=
  match o.wanted s.e with
  | none => .fail
  | some false => .ret (none, s.put o.d (.tup []))
  | some true => opK C call o.d o.op s
theorem stepK_eq (call : Call) (o : AOper) (s : St) : stepK C call o s = step1 C call o s := by
  simp only [stepK, step1]
  cases o.wanted s.e with
  | none => rfl
  | some b =>
    cases b with
    | false => rfl
    | true =>
      cases o.op <;> first | rfl | (simp only [opK, kBin, kIxS, binK_eq, leK_eq, AOp.run]; rfl)
def nextK (k : St → T (Option AV × St)) (q : Option AV × St) : T (Option AV × St) :=
  match q with
  | (none, s') => k s'
  | (some v, s') => .ret (some v, s')
def opsK (call : Call) : List AOper → St → T (Option AV × St)
  | [], s => .ret (none, s)
  | o :: r, s => (stepK C call o s).bind (nextK (opsK call r))
theorem opsK_eq (call : Call) : ∀ (os : List AOper) (s : St), opsK C call os s = ops C call os s
  | [], _ => rfl
  | o :: r, s => by
    simp only [opsK, ops, stepK_eq]
    congr 1
    funext q
    obtain ⟨x, s'⟩ := q
    cases x
    · exact opsK_eq call r s'
    · rfl
def seqK (k : St → T (Ex × St)) (r : Ex × St) : T (Ex × St) :=
  match r with
  | (.norm, s') => k s'
  | r => .ret r
def blockK (id : Nat) (r : Ex × St) : T (Ex × St) :=
  match r with
  | (.exit i, s') => match Nat.beq i id with
    | true => .ret (.norm, s')
    | false => .ret (.exit i, s')
  | r => .ret r
def condK (v : AV) (x y : T (Ex × St)) : T (Ex × St) :=
  match v with
  | .bool true => x
  | .bool false => y
  | _ => .fail
def regK (keep : Option (List Nat)) (os : List AOper) (s : St) (r : Option AV × St) : T (Ex × St) :=
  match r with
  | (none, s') => .ret (.norm, match keep with
    | some ts => { s' with e := s'.e.keep ts }
    | none => s')
  | (some v, s') => .ret (.pan v, { s' with e := panEnv os s.e, l := [] })
def afterRangeK (s : St) (b : Nat) (r : AOut × List Blk) : T (Ex × St) :=
  match r with
  | (.pan v, h) => .ret (.pan v, { s with e := panEnv [] s.e, h := h, l := [] })
  | (.ret _, h) => match h[b]? with
    | some (.loop st pend _ _ _ _) => match st with
      | .busy => .fail
      | _ => match pend with
        | .none => .ret (.norm, { s with h := h.set b .dead })
        | .ret => .ret (.ret, { s with h := h.set b .dead })
        | .exit i => .ret (.exit i, { s with h := h.set b .dead })
    | _ => .fail
def rangeK (call : Call) (f : AO) (ps : List Nat) (asg body : AC) (keep : List Nat) (s : St) : T (Ex × St) :=
  match callee (Env.v C s.e f) [.yld s.h.length] with
  | some (.fn g, as) => match allOk as with
    | true => (call (.fn g) as (s.h ++ [.loop .ready .none (s.e.keep keep).pub ps asg body])).bind (afterRangeK s s.h.length)
    | false => .fail
  | _ => .fail
def ghK (k : St → T (Ex × St)) (r : Option St) : T (Ex × St) :=
  match r with
  | some s' => k s'
  | none => .fail
def scopeK (n : Nat) (k : St → T (Ex × St)) (ka : Nat → St → T (Ex × St)) (l : Option Nat) (s : St) : T (Ex × St) :=
  match l with
  | some l => scopeN k (ka l) l n s
  | none => k s
def execK (call : Call) (n : Nat) : AC → St → T (Ex × St)
  | .skip, s => .ret (.norm, s)
  | .label _, s => .ret (.norm, s)
  | .ret, s => .ret (.ret, s)
  | .exit id, s => .ret (.exit id, s)
  | .goto l, s => .ret (.goto l, s)
  | .seq a b, s => (execK call n a s).bind (seqK (execK call n b))
  | .cond c a b, s => condK (Env.v C s.e c) (execK call n a s) (execK call n b s)
  | .block id a, s => (execK call n a s).bind (blockK id)
  | .loop a, s => loopN (execK call n a) n s
  | .reg _ os keep, s => (opsK C call os s).bind (regK keep os s)
  | .rangeF f ps assign body keep, s => rangeK C call f ps assign body keep s
  | .scope a, s => scopeK n (execK call n a) (execAfter C call n a) a.label? s
  | .gh g a, s => ghK (execK call n a) (g.run s)
theorem seqK_eq {k k' : St → T (Ex × St)} (h : ∀ s, k s = k' s) (r : Ex × St) : seqK k r = (match r with
    | (.norm, s') => k' s'
    | r => .ret r) := by
  obtain ⟨x, s⟩ := r
  cases x <;> first | exact h s | rfl
theorem bind_congr' {α β : Type} {t : T α} {f g : α → T β} (h : ∀ a, f a = g a) : t.bind f = t.bind g := by
  congr 1; funext a; exact h a
theorem execK_eq (call : Call) (n : Nat) : ∀ (c : AC) (s : St), execK C call n c s = exec C call n c s
  | .skip, _ => rfl
  | .label _, _ => rfl
  | .ret, _ => rfl
  | .exit _, _ => rfl
  | .goto _, _ => rfl
  | .seq a b, s => by
    simp only [execK, exec, execK_eq call n a s]
    exact bind_congr' fun r => seqK_eq (fun s => execK_eq call n b s) r
  | .cond c a b, s => by
    simp only [execK, exec, execK_eq call n a s, execK_eq call n b s]
    rfl
  | .block id a, s => by
    simp only [execK, exec, execK_eq call n a s]
    refine bind_congr' fun r => ?_
    obtain ⟨x, s'⟩ := r
    cases x <;> rfl
  | .loop a, s => by
    have : execK C call n a = exec C call n a := funext fun s => execK_eq call n a s
    simp only [execK, exec, this]
  | .reg d os keep, s => by
    simp only [execK, exec, opsK_eq]
    rfl
  | .rangeF f ps asg body keep, s => by
    simp only [execK, exec]
    rfl
  | .scope a, s => by
    have : execK C call n a = exec C call n a := funext fun s => execK_eq call n a s
    simp only [execK, exec, this]
    rfl
  | .gh g a, s => by
    have : execK C call n a = exec C call n a := funext fun s => execK_eq call n a s
    simp only [execK, exec, this]
    rfl
def finK (call : Call) (fn : AFun) (r : Ex × St) : T (AOut × List Blk) :=
  match r with
  | (.norm, s) => finish C call fn none s
  | (.ret, s) => finish C call fn none s
  | (.pan v, s) => finish C call fn (some v) s
  | _ => .fail
def fnK (call : Call) (n : Nat) (args : List AV) (h : List Blk) (fn : AFun) : T (AOut × List Blk) :=
  match Nat.beq args.length fn.np with
  | true => (execK C call n fn.body ⟨argEnv 0 args, [], h, []⟩).bind (finK C call fn)
  | false => .fail
def yldK2 (b : Nat) (r : Ex × St) : T (AOut × List Blk) :=
  match r.2.h[b]? with
  | some (.loop .busy _ e ps a' b') => match r with
    | (.norm, s) => .ret (.ret (.bool true), s.h.set b (.loop .ready .none e ps a' b'))
    | (.ret, s) => .ret (.ret (.bool false), s.h.set b (.loop .done .ret e ps a' b'))
    | (.exit i, s) => .ret (.ret (.bool false), s.h.set b (.loop .done (.exit i) e ps a' b'))
    | (.goto _, _) => .fail
    | (.pan _, _) => .fail
  | _ => .fail
def yldK1 (call : Call) (n b : Nat) (body : AC) (r : Ex × St) : T (AOut × List Blk) :=
  match r with
  | (.norm, s) => match s.h[b]? with
    | some (.loop .ready p e ps a' b') => (execK C call n body { s with h := s.h.set b (.loop .busy p e ps a' b') }).bind (yldK2 b)
    | _ => .fail
  | _ => .fail
def yldK (call : Call) (n b : Nat) (args : List AV) (h : List Blk) : T (AOut × List Blk) :=
  match h[b]? with
  | some (.loop .ready _ e ps assign body) => match setParams ps args e with
    | some e' => (execK C call n assign ⟨e', [], h, []⟩).bind (yldK1 C call n b body)
    | none => .fail
  | _ => .fail
def primK (args : List AV) (h : List Blk) (φ : List AV → List Blk → Option (AV × List Blk)) : T (AOut × List Blk) :=
  match φ args h with
  | some (v, h') => .ret (.ret v, h')
  | none => .fail
def callK : Nat → Call
  | 0, _, _, _ => .fail
  | n + 1, .fn f, args, h =>
    match C.prim f with
    | some φ => primK args h φ
    | none => match C.fn f with
      | some fn => fnK C (callK n) n args h fn
      | none => .fail
  | n + 1, .yld b, args, h => yldK C (callK n) n b args h
theorem callK_eq : ∀ n, callK C n = acall C n
  | 0 => rfl
  | n + 1 => by
    have hn := callK_eq n
    funext c args h
    cases c with
    | fn f =>
      simp only [callK, acall, hn]
      cases C.prim f with
      | some φ => rfl
      | none =>
        cases C.fn f with
        | none => rfl
        | some fn =>
          simp only [fnK, execK_eq]
          cases args.length.beq fn.np with
          | false => rfl
          | true =>
            refine bind_congr' fun r => ?_
            obtain ⟨x, s⟩ := r
            cases x <;> rfl
    | yld b =>
      simp only [callK, acall, hn, yldK]
      cases h[b]? with
      | none => rfl
      | some k =>
        cases k <;> try rfl
        rename_i st pend e ps a' b'
        cases st <;> try rfl
        cases hs : setParams ps args e with
        | none => simp only [hs]
        | some e' =>
          simp only [hs, execK_eq]
          refine bind_congr' fun r => ?_
          obtain ⟨x, s⟩ := r
          cases x <;> try rfl
          simp only [yldK1]
          cases s.h[b]? with
          | none => rfl
          | some k =>
            cases k <;> try rfl
            rename_i st pend e ps a' b'
            cases st <;> try rfl
            simp only [execK_eq]
            refine bind_congr' fun r => ?_
            simp only [yldK2]
            cases r.2.h[b]? with
            | none => rfl
            | some k =>
              cases k <;> try rfl
end
end Go.Lt
