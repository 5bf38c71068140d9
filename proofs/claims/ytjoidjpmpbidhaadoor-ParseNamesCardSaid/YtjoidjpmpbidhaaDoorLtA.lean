/-
  Lt: an abstract machine for the translation's code. Values are pure trees: a slice is its contents, a pointer into memory that nobody writes any more is what it points to. Frames have local blocks of their own; what is shared lies in a small heap. No draws, no capacities, no addresses.
  Lt: how the abstract machine's values and states stand for the model's.
  Lt: plain lemmas on the relation of values.
  Lt: how a state of the abstract machine stands for a frame and a world of the model's.
-/
import GoSem.Core.View
import Derived.OrdersIn
import Derived.RangeFuncLeaves
import Derived.RecoverIn
import Derived.Laws.World
import Derived.Laws.Entries
set_option linter.all false
namespace Go.Lt
open Go

inductive AV where
  | undef
  | bool (b : Bool)
  | int (k : IntKind) (n : Int)
  | str (s : List Nat)
  | agg (cs : List AV)
  | tup (vs : List AV)
  | sl (own : Bool) (xs : List AV)
  | cptr (cs : List AV)
  | nptr
  | lptr (b o : Nat)
  | hptr (b o : Nat)
  | hsl (b o es n : Nat)
  | fn (f : Nat) (first cap : List AV)
  | yld (b : Nat)
  | nfn
  | ifc (t : Nat) (v : AV)
  | nifc
  | cmap (es : List (AV × AV))
  | hmap (b : Nat)
  | nmap
  deriving Inhabited

/-- the cells that a value takes in memory -/
def AV.cells : AV → List AV
  | .agg cs => cs
  | v => [v]
/-- without the right to grow in place ('sl true []': no capacity at all: that may be shared) -/
def AV.clr : AV → AV
  | .sl true [] => .sl true []
  | .sl _ xs => .sl false xs
  | v => v
def AV.nrm0 : AV → AV
  | .sl _ xs => .sl false xs
  | v => v
/-- as it goes into and out of functions, and into elements -/
def AV.nrm : AV → AV
  | .sl _ xs => .sl false xs
  | .agg cs => .agg (cs.map AV.nrm0)
  | v => v
/-- may it lie inside another value? -/
def AV.ok : AV → Bool
  | .undef | .lptr .. | .tup _ => false
  | _ => true
/-- may it lie in a cell? -/
def AV.leaf : AV → Bool
  | .undef | .lptr .. | .tup _ | .agg _ => false
  | _ => true
def AV.isL (i : Nat) : AV → Bool
  | .lptr b _ => Nat.beq b i
  | _ => false
def AV.nol : AV → Bool
  | .lptr .. => false
  | _ => true
def AV.flat : AV → Bool
  | .bool _ | .int .. | .str _ | .agg [] => true
  | _ => false
mutual
/-- holds nothing of the heap -/
def AV.pure : AV → Bool
  | .undef | .lptr .. | .hptr .. | .hsl .. | .yld _ | .hmap _ => false
  | .cmap es => es.all fun p => p.1.flat && p.2.flat
  | .agg cs => AV.pures cs
  | .tup cs => AV.pures cs
  | .sl _ xs => AV.pures xs
  | .cptr cs => AV.pures cs
  | .fn _ a b => AV.pures a && AV.pures b
  | .ifc _ v => v.pure
  | _ => true
def AV.pures : List AV → Bool
  | [] => true
  | v :: r => v.pure && AV.pures r
end

/-- operands: a temporary (copied; taken with its right to grow), a constant, a package-level variable -/
inductive AO where
  | t (i : Nat)
  | tk (i : Nat)
  | k (v : AV)
  | g (i : Nat)
  deriving Inhabited

abbrev Env := List (Nat × AV)
def Env.get : Env → Nat → AV
  | [], _ => .undef
  | (j, v) :: r, i => match Nat.beq j i with
    | true => v
    | false => Env.get r i
def Env.keep (e : Env) (ts : List Nat) : Env := ts.map fun i => (i, e.get i)
def Env.purge (e : Env) (i : Nat) : Env := e.map fun p => match p.2.isL i with
  | true => (p.1, .undef)
  | false => p

/-- what may be seen by others: no right to grow, no local block -/
def Env.pub (e : Env) : Env := e.map fun p => (p.1, match p.2 with
  | .lptr .. => .undef
  | v => v.clr)

abbrev Loc := List (Nat × List AV)
def Loc.get : Loc → Nat → Option (List AV)
  | [], _ => none
  | (j, v) :: r, i => match Nat.beq j i with
    | true => some v
    | false => Loc.get r i
def Loc.set : Loc → Nat → List AV → Loc
  | [], i, cs => [(i, cs)]
  | (j, v) :: r, i, cs => match Nat.beq j i with
    | true => (j, cs) :: r
    | false => match Nat.blt i j with
      | true => (i, cs) :: (j, v) :: r
      | false => (j, v) :: Loc.set r i cs

inductive AOp where
  | mv (x : AO)
  | pick (c a b : AO)
  | allocL (i : Nat) (z : List AV)
  | allocH (z : List AV)
  | boxC (x : AO)
  | boxL (i : Nat) (x : AO)
  | boxH (x : AO)
  | build (z : List AV) (ps : List (Nat × Nat × AO))
  | bsl (n es : Nat) (z : AV) (ps : List (Nat × AO))
  | ldC (sh : Option Nat) (x : AO)
  | ldL (sh : Option Nat) (x : AO) (tk : Bool)
  | ldH (sh : Option Nat) (x : AO) (tk : Bool)
  | stL (n : Nat) (x v : AO)
  | stH (n : Nat) (x v : AO)
  | nilck (x : AO)
  | bin (c : Nat) (op : BinOp) (x y : AO)
  | un (op : UnOp) (x : AO)
  | eqS (neg : Bool) (ks : List Nat) (x y : AO)
  | cvI (k : IntKind) (x : AO)
  | s2b (x : AO)
  | ifc (t : Nat) (x : AO)
  | mkfn (f : Nat) (first cap : List AO)
  | fad (off : Nat) (x : AO)
  | fld (off : Nat) (sh : Option Nat) (x : AO)
  | iad (es : Nat) (x i : AO)
  | iaa (m es : Nat) (x i : AO)
  | ixs (x i : AO)
  | ixa (len es : Nat) (sh : Option Nat) (x i : AO)
  | slc (es : Nat) (x : AO) (lo hi : Option AO)
  | sls (x : AO) (lo hi : Option AO)
  | ext (x : AO) (i : Nat)
  | len (c : Nat) (x : AO)
  | mx (x : AO) (r : List AO)
  | mn (x : AO) (r : List AO)
  | app (es : Nat) (x y : AO)
  | appH (es : Nat) (x y : AO)
  | lkp (c : Nat) (ok : Bool) (z : AV) (m k : AO)
  | lkpC (c : Nat) (ok : Bool) (z : AV) (m k : AO)
  | ixB (f : Nat) (x y : AO)
  | ixS (f g : Nat) (x y : AO)
  | mkmap
  | mapset (c : Nat) (m k v : AO)
  | tas (t : Nat) (ok : Bool) (z : AV) (x : AO)
  | call (pur : Bool) (f : AO) (args : List AO)
  | dfr (f : AO) (args : List AO)
  | pan (x : AO)
  deriving Inhabited

/-- 'ix', 'af': of a region that draws its order: the operation's number, and those that come before it in every order -/
structure AOper where
  d : Option Nat
  op : AOp
  g : Option (Nat × Bool) := none
  ix : Nat := 0
  af : List Nat := []
  deriving Inhabited

/-- what has no counterpart in the code: a slice of the heap's becomes a value; local blocks are forgotten -/
inductive Gh where
  | frzT (t : Nat) (sh : Option Nat)
  | frzL (i j : Nat) (sh : Option Nat)
  deriving Inhabited

inductive AC where
  | skip
  | ret
  | exit (id : Nat)
  | seq (a b : AC)
  | cond (c : AO) (a b : AC)
  | block (id : Nat) (a : AC)
  | loop (a : AC)
  | reg (draw : Bool) (ops : List AOper) (keep : Option (List Nat))
  | rangeF (f : AO) (ps : List Nat) (assign body : AC) (keep : List Nat)
  | scope (a : AC)
  | label (l : Nat)
  | goto (l : Nat)
  | gh (g : Gh) (a : AC)
  deriving Inhabited

inductive LSt where
  | ready | busy | done | exhausted
  deriving Inhabited

inductive Pend where
  | none | ret | exit (id : Nat)
  deriving Inhabited

inductive Blk where
  | dead
  | cells (cs : List AV)
  | map (es : List (AV × AV))
  | loop (st : LSt) (pend : Pend) (e : Env) (ps : List Nat) (assign body : AC)
  deriving Inhabited

structure St where
  e : Env
  l : Loc
  h : List Blk
  d : List (AV × List AV)
  deriving Inhabited

/-- outcomes; 'ch': whatever is chosen -/
inductive T (α : Type) where
  | ret (a : α)
  | fail
  | ch (n : Nat) (k : Nat → T α)
def T.bind {α β : Type} : T α → (α → T β) → T β
  | .ret a, f => f a
  | .fail, _ => .fail
  | .ch n k, f => .ch n fun i => (k i).bind f
def T.All {α : Type} (Q : α → Prop) : T α → Prop
  | .ret a => Q a
  | .fail => False
  | .ch n k => 0 < n ∧ ∀ i, i < n → (k i).All Q
def T.ofOpt {α : Type} : Option α → T α
  | some a => .ret a
  | none => .fail

inductive AOut where
  | ret (v : AV)
  | pan (v : AV)
  deriving Inhabited

inductive Cal where
  | fn (f : Nat)
  | yld (b : Nat)

inductive ARes where
  | tmp (t : Nat)
  | own (t : Nat)
  | cell (t : Nat) (sh : Option Nat)
  deriving Inhabited

structure AFun where
  np : Nat
  res : List ARes
  body : AC
  deriving Inhabited

structure Cfg where
  fn : Nat → Option AFun
  gl : Nat → AV
  prim : Nat → Option (List AV → List Blk → Option (AV × List Blk))
  /-- the one function that may call recover, called as a deferred function: what it makes of a panic's value -/
  catch_ : Nat → Option (Nat × (List AV → AV → List Blk → Option (List Blk)))
  /-- functions that may be deferred -/
  dok : Nat → Bool

section
variable (C : Cfg)
/-- an operand's value, with its right to grow -/
def Env.o (e : Env) : AO → AV
  | .t i => (e.get i).clr
  | .tk i => e.get i
  | .k v => v
  | .g i => C.gl i
/-- an operand's value -/
def Env.v (e : Env) (x : AO) : AV := (Env.o C e x).clr
/-- an argument -/
def Env.arg (e : Env) (x : AO) : AV :=
  match x with
  | .tk i => e.get i
  | x => (Env.o C e x).nrm
def Env.untake (e : Env) : AO → Env
  | .tk i => (i, (e.get i).clr) :: e
  | _ => e
def Env.untakes (e : Env) : List AO → Env
  | [] => e
  | x :: r => Env.untakes (e.untake x) r
def Env.vs (e : Env) (xs : List AO) : List AV := xs.map (Env.v C e)

def readSh (sh : Option Nat) (cs : List AV) : Option AV :=
  match sh with
  | none => match cs with
    | v :: _ => match v.leaf with
      | true => some v
      | false => none
    | [] => none
  | some n => match Nat.ble n cs.length with
    | true => some (.agg ((cs.take n).map AV.clr))
    | false => none

def splice (cs : List AV) (off : Nat) (new : List AV) : Option (List AV) :=
  match Nat.ble (off + new.length) cs.length with
  | true => some (cs.take off ++ new ++ cs.drop (off + new.length))
  | false => none

def fillParts (e : Env) (cs : List AV) : List (Nat × Nat × AO) → Option (List AV)
  | [] => some cs
  | (off, size, x) :: r =>
    let v := Env.v C e x
    let new := v.cells.map AV.clr
    match v.ok && Nat.beq new.length size with
    | true => match splice cs off new with
      | some cs' => fillParts e cs' r
      | none => none
    | false => none

def fillElems (es : Nat) (e : Env) (xs : List AV) : List (Nat × AO) → Option (List AV)
  | [] => some xs
  | (i, x) :: r =>
    let v := Env.v C e x
    match v.ok && Nat.beq v.cells.length es && Nat.blt i xs.length with
    | true => fillElems es e (xs.set i v.nrm) r
    | false => none

def allLeaf : List AV → Bool
  | [] => true
  | v :: r => v.leaf && allLeaf r
def allOk : List AV → Bool
  | [] => true
  | v :: r => v.ok && allOk r
def headEs (es : Nat) : List AV → Bool
  | [] => true
  | v :: _ => Nat.beq v.cells.length es

def intOp (op : BinOp) (k : IntKind) (a b : Int) : Option AV :=
  match op with
  | .add => some (.int k (k.wrap (a + b)))
  | .sub => some (.int k (k.wrap (a - b)))
  | .mul => some (.int k (k.wrap (a * b)))
  | .quo => if b = 0 then none else some (.int k (k.wrap (a.tdiv b)))
  | .rem => if b = 0 then none else some (.int k (a.tmod b))
  | .lss => some (.bool (decide (a < b)))
  | .leq => some (.bool (decide (a ≤ b)))
  | .gtr => some (.bool (decide (a > b)))
  | .geq => some (.bool (decide (a ≥ b)))
  | .and => some (.int k (k.wrap (BitVec.ofInt k.bits a &&& BitVec.ofInt k.bits b).toNat))
  | .or => some (.int k (k.wrap (BitVec.ofInt k.bits a ||| BitVec.ofInt k.bits b).toNat))
  | _ => none

def shiftOp (op : BinOp) (k : IntKind) (a b : Int) : Option AV :=
  if b < 0 then none else
  match op with
  | .shl => some (.int k (k.wrap (a * 2 ^ (min b.toNat k.bits))))
  | .shr => some (.int k (a.fdiv (2 ^ (min b.toNat k.bits))))
  | _ => none

def leafEq : AV → AV → Option Bool
  | .int k a, .int k' b => if k = k' then some (a == b) else none
  | .str a, .str b => some (a == b)
  | .bool a, .bool b => some (a == b)
  | _, _ => none
def cellsEq : List AV → List AV → Option Bool
  | [], [] => some true
  | a :: x, b :: y => match leafEq a b with
    | some true => cellsEq x y
    | some false => match cellsEq x y with
      | some _ => some false
      | none => none
    | none => none
  | _, _ => none

/-- the cells of structs of numbers (0), strings (1), bools (2) -/
def kindEq : Nat → AV → AV → Option Bool
  | 0, .int k a, .int k' b => if k = k' then some (a == b) else none
  | 1, .str a, .str b => some (a == b)
  | 2, .bool a, .bool b => some (a == b)
  | _, _, _ => none
def cellsEqK : List Nat → List AV → List AV → Option Bool
  | [], [], [] => some true
  | k :: ks, a :: x, b :: y => match kindEq k a b with
    | some true => cellsEqK ks x y
    | some false => some false
    | none => none
  | _, _, _ => none

/-- equality, by the kind of the operands' type: 0 numbers and strings, 1 bool, 2 pointers (one is nil), 3 functions (one is nil), 4 interfaces (one is nil), 5 structs of plain cells -/
def eqV : Nat → AV → AV → Option Bool
  | 0, .int k a, .int k' b => if k = k' then some (a == b) else none
  | 0, .str a, .str b => some (a == b)
  | 1, .bool a, .bool b => some (a == b)
  | 2, .nptr, .nptr => some true
  | 2, .nptr, .cptr _ => some false
  | 2, .cptr _, .nptr => some false
  | 2, .nptr, .hptr .. => some false
  | 2, .hptr .., .nptr => some false
  | 3, .nfn, .nfn => some true
  | 3, .nfn, .fn .. => some false
  | 3, .fn .., .nfn => some false
  | 4, .nifc, .ifc .. => some false
  | 4, .ifc .., .nifc => some false
  | 4, .nifc, .nifc => some true
  | 5, .agg a, .agg b => cellsEq a b
  | _, _, _ => none

def arithA (op : BinOp) (x y : AV) : Option AV :=
  match x, y with
  | .int k a, .int k' b => if k = k' then intOp op k a b else none
  | .str a, .str b => match op with
    | .add => match Nat.ble (a.length + b.length) 4611686018427387904 with
      | true => some (.str (a ++ b))
      | false => none
    | _ => none
  | _, _ => none

def binA (c : Nat) (op : BinOp) (x y : AV) : Option AV :=
  match op with
  | .shl => match x, y with
    | .int k a, .int _ b => shiftOp .shl k a b
    | _, _ => none
  | .shr => match x, y with
    | .int k a, .int _ b => shiftOp .shr k a b
    | _, _ => none
  | .eql => match eqV c x y with
    | some b => some (.bool b)
    | none => none
  | .neq => match eqV c x y with
    | some b => some (.bool (!b))
    | none => none
  | op => arithA op x y

def unA (op : UnOp) (x : AV) : Option AV :=
  match op, x with
  | .not, .bool b => some (.bool (!b))
  | .neg, .int k n => some (.int k (k.wrap (0 - n)))
  | _, _ => none

def intsOf : List AV → Option (IntKind × List Int)
  | [] => none
  | [.int k n] => some (k, [n])
  | .int k n :: r => match intsOf r with
    | some (k', l) => if k = k' then some (k, n :: l) else none
    | none => none
  | _ => none

def findM (k : AV) : List (AV × AV) → Option (Option AV)
  | [] => some none
  | (j, v) :: r => match leafEq k j with
    | some true => some (some v)
    | some false => findM k r
    | none => none
def setM (k v : AV) : List (AV × AV) → Option (List (AV × AV))
  | [] => some [(k, v)]
  | (j, u) :: r => match leafEq k j with
    | some true => some ((k, v) :: r)
    | some false => match setM k v r with
      | some r' => some ((j, u) :: r')
      | none => none
    | none => none

/-- keys are strings (0) or numbers -/
def keyOk : Nat → AV → Bool
  | 0, .str _ => true
  | 1, .int .. => true
  | _, _ => false

def optInt (e : Env) (d : Int) : Option AO → Option Int
  | none => some d
  | some x => match Env.v C e x with
    | .int _ n => some n
    | _ => none

/-- the elements of a stretch of cells -/
def elems (sh : Option Nat) : Nat → List AV → Option (List AV)
  | 0, [] => some []
  | 0, _ :: _ => none
  | n + 1, cs => match readSh sh cs with
    | some v => match elems sh n (cs.drop v.cells.length) with
      | some r => some (v.clr :: r)
      | none => none
    | none => none

def hget (h : List Blk) (i : Nat) : Option (List AV) :=
  match h[i]? with
  | some (.cells cs) => some cs
  | _ => none
def hgetM (h : List Blk) (i : Nat) : Option (List (AV × AV)) :=
  match h[i]? with
  | some (.map es) => some es
  | _ => none

/-- the place of a byte, of a text -/
def idxB (c : Nat) : List Nat → Nat → Option Nat
  | [], _ => none
  | a :: r, i => match Nat.beq a c with
    | true => some i
    | false => idxB c r (i + 1)
def isPre : List Nat → List Nat → Bool
  | [], _ => true
  | _ :: _, [] => false
  | a :: x, b :: y => Nat.beq a b && isPre x y
def idxS (sub : List Nat) : List Nat → Nat → Option Nat
  | [], i => match isPre sub [] with
    | true => some i
    | false => none
  | a :: r, i => match isPre sub (a :: r) with
    | true => some i
    | false => idxS sub r (i + 1)
def optIdx : Option Nat → AV
  | some i => .int .i64 i
  | none => .int .i64 (-1)

/-- where a slice expression goes -/
def bounds (lo hi : Int) (n : Nat) : Option (Nat × Nat) :=
  if 0 ≤ lo ∧ lo ≤ hi ∧ hi ≤ n then some (lo.toNat, hi.toNat) else none

/-- one operation that calls nothing: its value and the state behind it -/
def AOp.run (o : AOp) (s : St) : Option (AV × St) :=
  match o with
  | .mv x => match Env.o C s.e x with
    | .undef => none
    | v => some (v, { s with e := s.e.untake x })
  | .pick c a b => match Env.v C s.e c with
    | .bool true => match Env.v C s.e a with
      | .undef => none
      | v => some (v, s)
    | .bool false => match Env.v C s.e b with
      | .undef => none
      | v => some (v, s)
    | _ => none
  | .allocL i z => some (.lptr i 0, { s with e := s.e.purge i, l := s.l.set i z })
  | .allocH z => some (.hptr s.h.length 0, { s with h := s.h ++ [.cells z] })
  | .boxC x => let v := Env.v C s.e x
    match v.ok with
    | true => some (.cptr (v.cells.map AV.nrm0), s)
    | false => none
  | .boxL i x => let v := Env.v C s.e x
    match v.ok with
    | true => some (.lptr i 0, { s with e := s.e.purge i, l := s.l.set i (v.cells.map AV.clr) })
    | false => none
  | .boxH x => let v := Env.v C s.e x
    match v.ok with
    | true => some (.hptr s.h.length 0, { s with h := s.h ++ [.cells (v.cells.map AV.clr)] })
    | false => none
  | .build z ps => match fillParts C s.e z ps with
    | some cs => some (.agg cs, s)
    | none => none
  | .bsl n es z ps => match fillElems C es s.e (List.replicate n z.nrm) ps with
    | some xs => match Nat.beq z.cells.length es && z.ok with
      | true => some (.sl true xs, s)
      | false => none
    | none => none
  | .ldC sh x => match Env.v C s.e x with
    | .cptr cs => match readSh sh cs with
      | some v => some (v.clr, s)
      | none => none
    | _ => none
  | .ldL sh x tk => match Env.v C s.e x with
    | .lptr i off => match s.l.get i with
      | some cs => match readSh sh (cs.drop off) with
        | some v => match tk with
          | true => some (v, { s with l := s.l.set i (cs.set off v.clr) })
          | false => some (v.clr, s)
        | none => none
      | none => none
    | _ => none
  | .ldH sh x tk => match Env.v C s.e x with
    | .hptr i off => match hget s.h i with
      | some cs => match readSh sh (cs.drop off) with
        | some v => match tk with
          | true => some (v, { s with h := s.h.set i (.cells (cs.set off v.clr)) })
          | false => some (v.clr, s)
        | none => none
      | none => none
    | _ => none
  | .stL n x v => match Env.v C s.e x with
    | .lptr i off => match s.l.get i with
      | some cs => let u := Env.o C s.e v
        match Nat.beq u.cells.length n && allLeaf u.cells with
        | true => match splice cs off (match u with | .agg us => us.map AV.clr | u => [u]) with
          | some cs' => some (.undef, { s with e := s.e.untake v, l := s.l.set i cs' })
          | none => none
        | false => none
      | none => none
    | _ => none
  | .stH n x v => match Env.v C s.e x with
    | .hptr i off => match hget s.h i with
      | some cs => let u := Env.o C s.e v
        match Nat.beq u.cells.length n && allLeaf u.cells with
        | true => match splice cs off (match u with | .agg us => us.map AV.clr | u => [u]) with
          | some cs' => some (.undef, { s with e := s.e.untake v, h := s.h.set i (.cells cs') })
          | none => none
        | false => none
      | none => none
    | _ => none
  | .nilck x => match Env.v C s.e x with
    | .cptr cs => some (.cptr cs, s)
    | .lptr i o => some (.lptr i o, s)
    | .hptr i o => some (.hptr i o, s)
    | .fn f a b => some (.fn f a b, s)
    | _ => none
  | .bin c op x y => match binA c op (Env.v C s.e x) (Env.v C s.e y) with
    | some v => some (v, s)
    | none => none
  | .un op x => match unA op (Env.v C s.e x) with
    | some v => some (v, s)
    | none => none
  | .eqS neg ks x y => match Env.v C s.e x, Env.v C s.e y with
    | .agg a, .agg b => match cellsEqK ks a b with
      | some r => some (.bool (match neg with | true => !r | false => r), s)
      | none => none
    | _, _ => none
  | .cvI k x => match Env.v C s.e x with
    | .int _ n => some (.int k (k.wrap n), s)
    | _ => none
  | .s2b x => match Env.v C s.e x with
    | .str l => some (.sl false (l.map fun (c : Nat) => AV.int .u8 (c : Int)), s)
    | _ => none
  | .ifc t x => let v := Env.v C s.e x
    match v.ok with
    | true => some (.ifc t v.nrm, s)
    | false => none
  | .mkfn f first cap => let a := (Env.vs C s.e first).map AV.nrm
    let b := (Env.vs C s.e cap).map AV.nrm
    match allOk a && allOk b with
    | true => some (.fn f a b, s)
    | false => none
  | .fad off x => match Env.v C s.e x with
    | .cptr cs => some (.cptr (cs.drop off), s)
    | .lptr i o => some (.lptr i (o + off), s)
    | .hptr i o => some (.hptr i (o + off), s)
    | _ => none
  | .fld off sh x => match Env.v C s.e x with
    | .agg cs => match readSh sh (cs.drop off) with
      | some v => some (v.clr, s)
      | none => none
    | _ => none
  | .iad es x i => match Env.v C s.e x, Env.v C s.e i with
    | .sl _ xs, .int _ n =>
      if 0 ≤ n then match xs[n.toNat]? with
        | some v => match Nat.beq v.cells.length es with
          | true => some (.cptr v.cells, s)
          | false => none
        | none => none
      else none
    | .hsl b o es' k, .int _ n =>
      if 0 ≤ n then match Nat.blt n.toNat k && Nat.beq es' es with
        | true => some (.hptr b (o + n.toNat * es), s)
        | false => none
      else none
    | _, _ => none
  | .iaa m es x i => match Env.v C s.e x, Env.v C s.e i with
    | .cptr cs, .int _ n => if 0 ≤ n ∧ n < m then some (.cptr (cs.drop (n.toNat * es)), s) else none
    | _, _ => none
  | .ixs x i => match Env.v C s.e x, Env.v C s.e i with
    | .str l, .int _ n => if 0 ≤ n then match l[n.toNat]? with
        | some c => some (.int .u8 c, s)
        | none => none
      else none
    | _, _ => none
  | .ixa m es sh x i => match Env.v C s.e x, Env.v C s.e i with
    | .agg cs, .int _ n => if 0 ≤ n ∧ n < m then match readSh sh (cs.drop (n.toNat * es)) with
        | some v => some (v.clr, s)
        | none => none
      else none
    | _, _ => none
  | .slc es x lo hi => match Env.v C s.e x with
    | .sl _ xs => match optInt C s.e 0 lo, optInt C s.e xs.length hi with
      | some a, some b => match bounds a b xs.length with
        | some (i, j) => match headEs es xs with
          | true => some (.sl false ((xs.take j).drop i), s)
          | false => none
        | none => none
      | _, _ => none
    | _ => none
  | .sls x lo hi => match Env.v C s.e x with
    | .str l => match optInt C s.e 0 lo, optInt C s.e l.length hi with
      | some a, some b => match bounds a b l.length with
        | some (i, j) => some (.str ((l.take j).drop i), s)
        | none => none
      | _, _ => none
    | _ => none
  | .ext x i => match Env.v C s.e x with
    | .tup vs => match vs[i]? with
      | some v => match v.ok with
        | true => some (v.clr, s)
        | false => none
      | none => none
    | _ => none
  | .len c x => match c, Env.v C s.e x with
    | 0, .str l => some (.int .i64 l.length, s)
    | 1, .sl _ xs => some (.int .i64 xs.length, s)
    | 1, .hsl _ _ _ n => some (.int .i64 n, s)
    | 2, .cmap es => some (.int .i64 es.length, s)
    | 2, .hmap i => match hgetM s.h i with
      | some es => some (.int .i64 es.length, s)
      | none => none
    | _, _ => none
  | .mx x r => match intsOf (Env.vs C s.e (x :: r)) with
    | some (k, n :: l) => some (.int k (l.foldl (fun a b => if b > a then b else a) n), s)
    | _ => none
  | .mn x r => match intsOf (Env.vs C s.e (x :: r)) with
    | some (k, n :: l) => some (.int k (l.foldl (fun a b => if b < a then b else a) n), s)
    | _ => none
  | .app es x y => match Env.o C s.e x, Env.v C s.e y with
    | .sl true xs, .sl _ ys => match Nat.ble (xs.length + ys.length) 2147483648 && headEs es xs && headEs es ys with
      | true => some (.sl true (xs ++ ys), { s with e := s.e.untake x })
      | false => none
    | _, _ => none
  | .appH es x y => match Env.o C s.e x, Env.v C s.e y with
    | .sl true [], .sl _ [] => some (.sl true [], s)
    | .sl true [], .sl _ (y :: ys) => match Nat.ble (y :: ys).length 2147483648 && headEs es (y :: ys) with
      | true => some (.hsl s.h.length 0 es (y :: ys).length, { s with h := s.h ++ [.cells (((y :: ys).flatMap AV.cells).map AV.clr)] })
      | false => none
    | _, _ => none
  | .lkp c ok z m k =>
    match keyOk c (Env.v C s.e k) with
    | true =>
      let r := match Env.v C s.e m with
        | .cmap es => findM (Env.v C s.e k) es
        | .hmap i => match hgetM s.h i with
          | some es => findM (Env.v C s.e k) es
          | none => none
        | .nmap => some none
        | _ => none
      match r with
      | some (some v) => some (match ok with | true => .tup [v, .bool true] | false => v.clr, s)
      | some none => some (match ok with | true => .tup [z, .bool false] | false => z.clr, s)
      | none => none
    | false => none
  | .lkpC c ok z m k =>
    match keyOk c (Env.v C s.e k) with
    | true =>
      let r := match Env.v C s.e m with
        | .cmap es => findM (Env.v C s.e k) es
        | .nmap => some none
        | _ => none
      match r with
      | some (some v) => some (match ok with | true => .tup [v, .bool true] | false => v.clr, s)
      | some none => some (match ok with | true => .tup [z, .bool false] | false => z.clr, s)
      | none => none
    | false => none
  | .ixB _ x y => match Env.v C s.e x, Env.v C s.e y with
    | .str l, .int .u8 n => match Nat.blt n.toNat 256 with
      | true => some (optIdx (idxB n.toNat l 0), s)
      | false => none
    | _, _ => none
  | .ixS _ g x y => match Env.v C s.e x, Env.v C s.e y, C.gl g with
    | .str l, .str m, .cptr (.int .i64 n :: _) => match Nat.ble 2 m.length && Nat.blt l.length 4294967281 && decide ((m.length : Int) ≤ n) with
      | true => some (optIdx (idxS m l 0), s)
      | false => none
    | _, _, _ => none
  | .mkmap => some (.hmap s.h.length, { s with h := s.h ++ [.map []] })
  | .mapset c m k v => let u := Env.v C s.e v
    match Env.v C s.e m, u.ok && keyOk c (Env.v C s.e k) with
    | .hmap i, true => match hgetM s.h i with
      | some es => match setM (Env.v C s.e k) u es with
        | some es' => some (.undef, { s with h := s.h.set i (.map es') })
        | none => none
      | none => none
    | _, _ => none
  | .tas t ok z x => match Env.v C s.e x with
    | .ifc t' v => match Nat.beq t' t with
      | true => some (match ok with | true => .tup [v, .bool true] | false => v.clr, s)
      | false => match ok with
        | true => some (.tup [z, .bool false], s)
        | false => none
    | .nifc => match ok with
      | true => some (.tup [z, .bool false], s)
      | false => none
    | _ => none
  | .dfr f args => match Env.v C s.e f with
    | .fn g a b => let as := (Env.vs C s.e args).map AV.nrm
      match allOk as with
      | true => some (.undef, { s with d := (.fn g a b, as) :: s.d })
      | false => none
    | _ => none
  | .call .. | .pan _ => none

def Gh.run (g : Gh) (s : St) : Option St :=
  match g with
  | .frzT t sh => match s.e.get t with
    | .hsl b o es n => match hget s.h b with
      | some cs => match elems sh n ((cs.drop o).take (n * es)) with
        | some xs => match headEs es xs with
          | true => some { s with e := (t, .sl false xs) :: s.e, h := s.h.set b .dead }
          | false => none
        | none => none
      | none => none
    | .sl _ xs => some { s with e := (t, .sl false xs) :: s.e }
    | _ => none
  | .frzL i j sh => match s.l.get i with
    | some ls => match ls[j]? with
      | some (.hsl b o es n) => match hget s.h b with
        | some cs => match elems sh n ((cs.drop o).take (n * es)) with
          | some xs => match headEs es xs with
            | true => some { s with l := s.l.set i (ls.set j (.sl false xs)), h := s.h.set b .dead }
            | false => none
          | none => none
        | none => none
      | some (.sl _ xs) => some { s with l := s.l.set i (ls.set j (.sl false xs)) }
      | _ => none
    | none => none

abbrev Call := Cal → List AV → List Blk → T (AOut × List Blk)

/-- a call: the callee and its arguments -/
def callee (f : AV) (args : List AV) : Option (Cal × List AV) :=
  match f with
  | .fn g a b => some (.fn g, a.map AV.nrm ++ args ++ b.map AV.nrm)
  | .yld b => some (.yld b, args)
  | _ => none

def AOper.wanted (o : AOper) (e : Env) : Option Bool :=
  match o.g with
  | none => some true
  | some (t, w) => match e.get t with
    | .bool b => some (b == w)
    | .tup [] => some false
    | _ => none

def St.put (s : St) (d : Option Nat) (v : AV) : St :=
  match d with
  | some t => { s with e := (t, v) :: s.e }
  | none => s

/-- one operation; 'some v': a panic -/
def step1 (call : Call) (o : AOper) (s : St) : T (Option AV × St) :=
  match o.wanted s.e with
  | none => .fail
  | some false => .ret (none, s.put o.d (.tup []))
  | some true =>
    match o.op with
    | .pan x => match Env.v C s.e x with
      | .ifc t v => .ret (some (.ifc t v), s)
      | _ => .fail
    | .call pur f args =>
      let as := args.map (Env.arg C s.e)
      match allOk as, callee (Env.v C s.e f) as with
      | true, some (c, as) =>
        match pur with
        | true => match (Env.v C s.e f).pure && AV.pures as with
          | true => (call c as []).bind fun r' => match r' with
            | (.ret v, _) => match v.pure with
              | true => .ret (none, St.put { s with e := s.e.untakes args } o.d v)
              | false => .fail
            | (.pan v, _) => match v.pure with
              | true => .ret (some v, { s with e := s.e.untakes args })
              | false => .fail
          | false => .fail
        | false => (call c as s.h).bind fun r' => match r' with
          | (.ret v, h) => match v.nol with
            | true => .ret (none, St.put { s with e := s.e.untakes args, h := h } o.d v)
            | false => .fail
          | (.pan v, h) => .ret (some v, { s with e := s.e.untakes args, h := h })
      | _, _ => .fail
    | op => match AOp.run C op s with
      | some (v, s') => .ret (none, s'.put o.d v)
      | none => .fail

/-- the operations of a region, one after the other -/
def ops (call : Call) : List AOper → St → T (Option AV × St)
  | [], s => .ret (none, s)
  | o :: r, s => (step1 C call o s).bind fun q => match q with
    | (none, s') => ops call r s'
    | (some v, s') => .ret (some v, s')

def hasDst : List AOper → Nat → Bool
  | [], _ => false
  | o :: r, t => match o.d with
    | some d => Nat.beq d t || hasDst r t
    | none => hasDst r t
/-- what a panic leaves of a region's temporaries -/
def panEnv (os : List AOper) (e : Env) : Env := e.pub.filter fun p => !(hasDst os p.1)

inductive Ex where
  | norm
  | exit (id : Nat)
  | goto (l : Nat)
  | ret
  | pan (v : AV)
  deriving Inhabited

/-- what stands behind a label -/
def AC.after : AC → Nat → Option AC
  | .seq a b, l => match a.after l with
    | some r => some (.seq r b)
    | none => b.after l
  | .label l', l => match Nat.beq l' l with
    | true => some .skip
    | false => none
  | .gh _ a, l => a.after l
  | _, _ => none

def loopN (f : St → T (Ex × St)) : Nat → St → T (Ex × St)
  | 0, _ => .fail
  | n + 1, s => (f s).bind fun r => match r with
    | (.norm, s') => loopN f n s'
    | r => .ret r

/-- a scope: a jump to a label of it goes on behind the label -/
def scopeN (f g : St → T (Ex × St)) (l : Nat) : Nat → St → T (Ex × St)
  | 0, _ => .fail
  | n + 1, s => (f s).bind fun r => match r with
    | (.goto l', s') => match Nat.beq l' l with
      | true => scopeN g g l n s'
      | false => .fail
    | r => .ret r

def AC.label? : AC → Option Nat
  | .seq a b => match a.label? with
    | some l => some l
    | none => b.label?
  | .label l => some l
  | .gh _ a => a.label?
  | _ => none

mutual
def exec (call : Call) (n : Nat) : AC → St → T (Ex × St)
  | .skip, s => .ret (.norm, s)
  | .label _, s => .ret (.norm, s)
  | .ret, s => .ret (.ret, s)
  | .exit id, s => .ret (.exit id, s)
  | .goto l, s => .ret (.goto l, s)
  | .seq a b, s => (exec call n a s).bind fun r => match r with
    | (.norm, s') => exec call n b s'
    | r => .ret r
  | .cond c a b, s => match Env.v C s.e c with
    | .bool true => exec call n a s
    | .bool false => exec call n b s
    | _ => .fail
  | .block id a, s => (exec call n a s).bind fun r => match r with
    | (.exit i, s') => match Nat.beq i id with
      | true => .ret (.norm, s')
      | false => .ret (.exit i, s')
    | r => .ret r
  | .loop a, s => loopN (exec call n a) n s
  | .reg _ os keep, s => (ops C call os s).bind fun r => match r with
    | (none, s') => .ret (.norm, match keep with
      | some ts => { s' with e := s'.e.keep ts }
      | none => s')
    | (some v, s') => .ret (.pan v, { s' with e := panEnv os s.e, l := [] })
  | .rangeF f ps assign body keep, s =>
    let b := s.h.length
    match callee (Env.v C s.e f) [.yld b] with
    | some (.fn g, as) => match allOk as with
      | true => (call (.fn g) as (s.h ++ [.loop .ready .none (s.e.keep keep).pub ps assign body])).bind fun r => match r with
        | (.pan v, h) => .ret (.pan v, { s with e := panEnv [] s.e, h := h, l := [] })
        | (.ret _, h) => match h[b]? with
          | some (.loop st pend _ _ _ _) => match st with
            | .busy => .fail
            | _ => match pend with
              | .none => .ret (.norm, { s with h := h.set b .dead })
              | .ret => .ret (.ret, { s with h := h.set b .dead })
              | .exit i => .ret (.exit i, { s with h := h.set b .dead })
          | _ => .fail
      | false => .fail
    | _ => .fail
  | .scope a, s => match a.label? with
    | some l => scopeN (exec call n a) (execAfter call n a l) l n s
    | none => exec call n a s
  | .gh g a, s => match g.run s with
    | some s' => exec call n a s'
    | none => .fail
def execAfter (call : Call) (n : Nat) : AC → Nat → St → T (Ex × St)
  | .seq a b, l, s => match a.after l with
    | some _ => (execAfter call n a l s).bind fun r => match r with
      | (.norm, s') => exec call n b s'
      | r => .ret r
    | none => execAfter call n b l s
  | .label _, _, s => .ret (.norm, s)
  | .gh _ a, l, s => execAfter call n a l s
  | _, _, _ => .fail
end

def readRes (s : St) : List ARes → Option (List AV)
  | [] => some []
  | .tmp t :: r => match (s.e.get t).ok, readRes s r with
    | true, some l => some ((s.e.get t).nrm :: l)
    | _, _ => none
  | .own t :: r => match (s.e.get t).ok, readRes s r with
    | true, some l => some (s.e.get t :: l)
    | _, _ => none
  | .cell t sh :: r =>
    let v := match s.e.get t with
      | .lptr i off => match s.l.get i with
        | some cs => readSh sh (cs.drop off)
        | none => none
      | .hptr i off => match hget s.h i with
        | some cs => readSh sh (cs.drop off)
        | none => none
      | _ => none
    match v, readRes s r with
    | some v, some l => some (v.nrm :: l)
    | _, _ => none

def results (s : St) (rs : List ARes) : Option AV :=
  match readRes s rs with
  | some [v] => some v
  | some l => some (.tup (l.map AV.nrm))
  | none => none

/-- the deferred calls; 'm': the panic that is under way -/
def leave (call : Call) : List (AV × List AV) → Option AV → List Blk → T (Option AV × List Blk)
  | [], m, h => .ret (m, h)
  | (f, args) :: r, m, h =>
    match callee f (args.map AV.nrm) with
    | some (.fn g, as) => match C.catch_ g with
      | some (np, φ) => match Nat.beq as.length np with
        | true => match m with
          | some v => match φ as v h with
            | some h' => leave call r none h'
            | none => .fail
          | none => leave call r none h
        | false => .fail
      | none => match C.dok g && allOk as with
        | true => (call (.fn g) as h).bind fun r' => match r' with
          | (.ret _, h') => leave call r m h'
          | (.pan _, _) => .fail
        | false => .fail
    | _ => .fail

def finish (call : Call) (fn : AFun) (m : Option AV) (s : St) : T (AOut × List Blk) :=
  (leave C call s.d m s.h).bind fun r => match r with
    | (none, h) => match results { s with h := h } fn.res with
      | some v => .ret (.ret v, h)
      | none => .fail
    | (some v, h) => .ret (.pan v, h)

def argEnv : Nat → List AV → Env
  | _, [] => []
  | i, v :: r => (i, v) :: argEnv (i + 1) r

def hasNat : List Nat → Nat → Bool
  | [], _ => false
  | x :: r, t => Nat.beq x t || hasNat r t
def setParams : List Nat → List AV → Env → Option Env
  | [], [], e => some e
  | t :: ts, v :: vs, e => match hasNat ts t with
    | true => none
    | false => match setParams ts vs e with
      | some e' => some ((t, v.clr) :: e')
      | none => none
  | _, _, _ => none

def acall : Nat → Call
  | 0, _, _, _ => .fail
  | n + 1, .fn f, args, h =>
    match C.prim f with
    | some φ => match φ args h with
      | some (v, h') => .ret (.ret v, h')
      | none => .fail
    | none => match C.fn f with
      | some fn => match Nat.beq args.length fn.np with
        | true => (exec C (acall n) n fn.body ⟨argEnv 0 args, [], h, []⟩).bind fun r => match r with
          | (.norm, s) => finish C (acall n) fn none s
          | (.ret, s) => finish C (acall n) fn none s
          | (.pan v, s) => finish C (acall n) fn (some v) s
          | _ => .fail
        | false => .fail
      | none => .fail
  | n + 1, .yld b, args, h =>
    match h[b]? with
    | some (.loop .ready _ e ps assign body) => match setParams ps args e with
      | some e' =>
        (exec C (acall n) n assign ⟨e', [], h, []⟩).bind fun r => match r with
          | (.norm, s) => match s.h[b]? with
            | some (.loop .ready p e ps a' b') =>
              (exec C (acall n) n body { s with h := s.h.set b (.loop .busy p e ps a' b') }).bind fun r =>
                match r.2.h[b]? with
                | some (.loop .busy _ e ps a' b') => match r with
                  | (.norm, s) => .ret (.ret (.bool true), s.h.set b (.loop .ready .none e ps a' b'))
                  | (.ret, s) => .ret (.ret (.bool false), s.h.set b (.loop .done .ret e ps a' b'))
                  | (.exit i, s) => .ret (.ret (.bool false), s.h.set b (.loop .done (.exit i) e ps a' b'))
                  | (.goto _, _) => .fail
                  | (.pan _, _) => .fail
                | _ => .fail
            | _ => .fail
          | _ => .fail
      | none => .fail
    | _ => .fail
end
end Go.Lt
namespace Go.Lt
open Go

/-- a place that may hold a slice with the right to grow in place -/
inductive Pl where
  | tmp (t : Nat)
  | lc (i j : Nat)
  | hc (i j : Nat)
  | out
  deriving DecidableEq

/-- what a block of the model's heap is to the abstract machine -/
inductive Role where
  | none
  | heap (i : Nat)
  | loc (i : Nat)
  | tail (p : Pl)
  deriving DecidableEq

structure Gho where
  con : Nat → Nat → Option Value
  obj : Nat → Option (Array MapEntry × Nat)
  role : Nat → Role
  /-- may marks of loops over functions lie among the deferred calls? -/
  mrk : Option Nat

/-- keys that are all different -/
def newKey (k : AV) : List (AV × AV) → Bool
  | [] => true
  | (j, _) :: r => (match leafEq k j with
    | some false => true
    | _ => false) && newKey k r
def distinctM : List (AV × AV) → Bool
  | [] => true
  | (k, _) :: r => newKey k r && distinctM r

mutual
inductive VR (G : Gho) : AV → Value → Prop
  | bool (b : Bool) : VR G (.bool b) (.bool b)
  | int (k : IntKind) (n : Int) : VR G (.int k n) (.int k n)
  | str (s : List Nat) (b : ByteArray) (h : b.data.toList.map UInt8.toNat = s) : VR G (.str s) (.string b)
  | agg (cs : List AV) (vs : List Value) (hl : allLeaf cs = true) (h : VRs G cs vs) : VR G (.agg cs) (.agg ⟨vs⟩)
  | tup (cs : List AV) (vs : List Value) (h : VRs G cs vs) : VR G (.tup cs) (.tuple ⟨vs⟩)
  | sl0f (a : Option Addr) (c : Nat) : VR G (.sl false []) (.slice a 0 c)
  | sl0t (a : Option Addr) : VR G (.sl true []) (.slice a 0 0)
  | sl (o : Bool) (x : AV) (xs cs : List AV) (b off es n c : Nat) (hes : ∀ y ∈ x :: xs, y.cells.length = es) (hcs : cs = (x :: xs).flatMap AV.cells)
      (hn : n = (x :: xs).length) (hc : n ≤ c) (h : CA G b off cs) : VR G (.sl o (x :: xs)) (.slice (some ⟨b, off, none⟩) n c)
  | cptr (cs : List AV) (b off : Nat) (h : CA G b off cs) : VR G (.cptr cs) (.pointer (some ⟨b, off, none⟩))
  | nptr : VR G .nptr (.pointer none)
  | hptr (i o k : Nat) (h : G.role k = .heap i) : VR G (.hptr i o) (.pointer (some ⟨k, o, none⟩))
  | hsl (i o es n k c : Nat) (h : G.role k = .heap i) (hc : n ≤ c) : VR G (.hsl i o es n) (.slice (some ⟨k, o, none⟩) n c)
  | fn (f : Nat) (a b : List AV) (va vb : List Value) (ha : VRs G a va) (hb : VRs G b vb) : VR G (.fn f a b) (.func (.func f) ⟨va⟩ ⟨vb⟩)
  | yld (i k : Nat) (h : G.role k = .heap i) : VR G (.yld i) (.func (.yield k) #[] #[])
  | nfn : VR G .nfn .nilFunc
  | ifc (t : Nat) (v : AV) (w : Value) (h : VR G v w) : VR G (.ifc t v) (.iface t w)
  | nifc : VR G .nifc .nilIface
  | cmap (es es' : List (AV × AV)) (k : Nat) (l : List MapEntry) (clk : Nat) (ho : G.obj k = some (⟨l⟩, clk)) (hp : es'.Perm es) (hd : distinctM es = true) (h : MEs G es' l) : VR G (.cmap es) (.map (some k))
  | hmap (i k : Nat) (h : G.role k = .heap i) : VR G (.hmap i) (.map (some k))
  | nmap : VR G .nmap (.map none)
inductive VRs (G : Gho) : List AV → List Value → Prop
  | nil : VRs G [] []
  | cons (c : AV) (v : Value) (cs : List AV) (vs : List Value) (h : VR G c v) (r : VRs G cs vs) : VRs G (c :: cs) (v :: vs)
inductive CA (G : Gho) : Nat → Nat → List AV → Prop
  | nil (b off : Nat) : CA G b off []
  | cons (b off : Nat) (c : AV) (v : Value) (cs : List AV) (hc : G.con b off = some v) (hl : c.leaf = true) (h : VR G c v) (r : CA G b (off + 1) cs) : CA G b off (c :: cs)
inductive MEs (G : Gho) : List (AV × AV) → List MapEntry → Prop
  | nil : MEs G [] []
  | cons (k u : AV) (e : MapEntry) (es : List (AV × AV)) (l : List MapEntry) (hk : VR G k e.key) (hkl : k.leaf = true) (hv : VR G u e.val) (r : MEs G es l) : MEs G ((k, u) :: es) (e :: l)
end

structure GLe (G G' : Gho) : Prop where
  con : ∀ b o v, G.con b o = some v → G'.con b o = some v
  obj : ∀ b x, G.obj b = some x → G'.obj b = some x
  role : ∀ b i, G.role b = .heap i → G'.role b = .heap i

theorem GLe.refl (G : Gho) : GLe G G := ⟨fun _ _ _ h => h, fun _ _ h => h, fun _ _ h => h⟩
theorem GLe.trans {A B C : Gho} (h : GLe A B) (k : GLe B C) : GLe A C :=
  ⟨fun b o v x => k.con b o v (h.con b o v x), fun b x y => k.obj b x (h.obj b x y), fun b i x => k.role b i (h.role b i x)⟩

theorem VR.mono {G G' : Gho} (hle : GLe G G') {c : AV} {v : Value} (h : VR G c v) : VR G' c v :=
  VR.rec (motive_1 := fun c v _ => VR G' c v) (motive_2 := fun cs vs _ => VRs G' cs vs) (motive_3 := fun b off cs _ => CA G' b off cs) (motive_4 := fun es l _ => MEs G' es l)
    (fun b => .bool b) (fun k n => .int k n) (fun s b h => .str s b h) (fun cs vs hl _ ih => .agg cs vs hl ih) (fun cs vs _ ih => .tup cs vs ih) (fun a c => .sl0f a c) (fun a => .sl0t a)
    (fun o x xs cs b off es n c hes hcs hn hc _ ih => .sl o x xs cs b off es n c hes hcs hn hc ih) (fun cs b off _ ih => .cptr cs b off ih) .nptr (fun i o k h => .hptr i o k (hle.role _ _ h))
    (fun i o es n k c h hc => .hsl i o es n k c (hle.role _ _ h) hc) (fun f a b va vb _ _ ha hb => .fn f a b va vb ha hb) (fun i k h => .yld i k (hle.role _ _ h)) .nfn (fun t v w _ ih => .ifc t v w ih) .nifc
    (fun es es' k l clk ho hp hd _ ih => .cmap es es' k l clk (hle.obj _ _ ho) hp hd ih) (fun i k h => .hmap i k (hle.role _ _ h)) .nmap
    .nil (fun c v cs vs _ _ h r => .cons c v cs vs h r)
    (fun b off => .nil b off) (fun b off c v cs hc hl _ _ h r => .cons b off c v cs (hle.con _ _ _ hc) hl h r)
    .nil (fun k u e es l _ hkl _ _ hk hv r => .cons k u e es l hk hkl hv r) h
theorem VRs.mono {G G' : Gho} (hle : GLe G G') {c : List AV} {v : List Value} (h : VRs G c v) : VRs G' c v :=
  VRs.rec (motive_1 := fun c v _ => VR G' c v) (motive_2 := fun cs vs _ => VRs G' cs vs) (motive_3 := fun b off cs _ => CA G' b off cs) (motive_4 := fun es l _ => MEs G' es l)
    (fun b => .bool b) (fun k n => .int k n) (fun s b h => .str s b h) (fun cs vs hl _ ih => .agg cs vs hl ih) (fun cs vs _ ih => .tup cs vs ih) (fun a c => .sl0f a c) (fun a => .sl0t a)
    (fun o x xs cs b off es n c hes hcs hn hc _ ih => .sl o x xs cs b off es n c hes hcs hn hc ih) (fun cs b off _ ih => .cptr cs b off ih) .nptr (fun i o k h => .hptr i o k (hle.role _ _ h))
    (fun i o es n k c h hc => .hsl i o es n k c (hle.role _ _ h) hc) (fun f a b va vb _ _ ha hb => .fn f a b va vb ha hb) (fun i k h => .yld i k (hle.role _ _ h)) .nfn (fun t v w _ ih => .ifc t v w ih) .nifc
    (fun es es' k l clk ho hp hd _ ih => .cmap es es' k l clk (hle.obj _ _ ho) hp hd ih) (fun i k h => .hmap i k (hle.role _ _ h)) .nmap
    .nil (fun c v cs vs _ _ h r => .cons c v cs vs h r)
    (fun b off => .nil b off) (fun b off c v cs hc hl _ _ h r => .cons b off c v cs (hle.con _ _ _ hc) hl h r)
    .nil (fun k u e es l _ hkl _ _ hk hv r => .cons k u e es l hk hkl hv r) h
theorem CA.mono {G G' : Gho} (hle : GLe G G') {b off : Nat} {c : List AV} (h : CA G b off c) : CA G' b off c :=
  CA.rec (motive_1 := fun c v _ => VR G' c v) (motive_2 := fun cs vs _ => VRs G' cs vs) (motive_3 := fun b off cs _ => CA G' b off cs) (motive_4 := fun es l _ => MEs G' es l)
    (fun b => .bool b) (fun k n => .int k n) (fun s b h => .str s b h) (fun cs vs hl _ ih => .agg cs vs hl ih) (fun cs vs _ ih => .tup cs vs ih) (fun a c => .sl0f a c) (fun a => .sl0t a)
    (fun o x xs cs b off es n c hes hcs hn hc _ ih => .sl o x xs cs b off es n c hes hcs hn hc ih) (fun cs b off _ ih => .cptr cs b off ih) .nptr (fun i o k h => .hptr i o k (hle.role _ _ h))
    (fun i o es n k c h hc => .hsl i o es n k c (hle.role _ _ h) hc) (fun f a b va vb _ _ ha hb => .fn f a b va vb ha hb) (fun i k h => .yld i k (hle.role _ _ h)) .nfn (fun t v w _ ih => .ifc t v w ih) .nifc
    (fun es es' k l clk ho hp hd _ ih => .cmap es es' k l clk (hle.obj _ _ ho) hp hd ih) (fun i k h => .hmap i k (hle.role _ _ h)) .nmap
    .nil (fun c v cs vs _ _ h r => .cons c v cs vs h r)
    (fun b off => .nil b off) (fun b off c v cs hc hl _ _ h r => .cons b off c v cs (hle.con _ _ _ hc) hl h r)
    .nil (fun k u e es l _ hkl _ _ hk hv r => .cons k u e es l hk hkl hv r) h
theorem MEs.mono {G G' : Gho} (hle : GLe G G') {c : List (AV × AV)} {v : List MapEntry} (h : MEs G c v) : MEs G' c v :=
  MEs.rec (motive_1 := fun c v _ => VR G' c v) (motive_2 := fun cs vs _ => VRs G' cs vs) (motive_3 := fun b off cs _ => CA G' b off cs) (motive_4 := fun es l _ => MEs G' es l)
    (fun b => .bool b) (fun k n => .int k n) (fun s b h => .str s b h) (fun cs vs hl _ ih => .agg cs vs hl ih) (fun cs vs _ ih => .tup cs vs ih) (fun a c => .sl0f a c) (fun a => .sl0t a)
    (fun o x xs cs b off es n c hes hcs hn hc _ ih => .sl o x xs cs b off es n c hes hcs hn hc ih) (fun cs b off _ ih => .cptr cs b off ih) .nptr (fun i o k h => .hptr i o k (hle.role _ _ h))
    (fun i o es n k c h hc => .hsl i o es n k c (hle.role _ _ h) hc) (fun f a b va vb _ _ ha hb => .fn f a b va vb ha hb) (fun i k h => .yld i k (hle.role _ _ h)) .nfn (fun t v w _ ih => .ifc t v w ih) .nifc
    (fun es es' k l clk ho hp hd _ ih => .cmap es es' k l clk (hle.obj _ _ ho) hp hd ih) (fun i k h => .hmap i k (hle.role _ _ h)) .nmap
    .nil (fun c v cs vs _ _ h r => .cons c v cs vs h r)
    (fun b off => .nil b off) (fun b off c v cs hc hl _ _ h r => .cons b off c v cs (hle.con _ _ _ hc) hl h r)
    .nil (fun k u e es l _ hkl _ _ hk hv r => .cons k u e es l hk hkl hv r) h
end Go.Lt
namespace Go.Lt
open Go
variable {G G' : Gho}

theorem VRs.length {cs : List AV} {vs : List Value} (h : VRs G cs vs) : cs.length = vs.length := by
  induction cs generalizing vs with
  | nil => cases h; rfl
  | cons c cs ih => cases h with | cons _ v _ vs _ r => simp [ih r]
theorem VRs.get {cs : List AV} {vs : List Value} (h : VRs G cs vs) : ∀ (i : Nat) (c : AV), cs[i]? = some c → ∃ v, vs[i]? = some v ∧ VR G c v := by
  induction cs generalizing vs with
  | nil => intro i c hc; simp at hc
  | cons x cs ih =>
    cases h with | cons _ v _ vs h r =>
    intro i c hc
    cases i with
    | zero => simp at hc; subst hc; exact ⟨v, rfl, h⟩
    | succ i => simpa using ih r i c (by simpa using hc)
theorem VRs.get' {cs : List AV} {vs : List Value} (h : VRs G cs vs) (i : Nat) (v : Value) (hv : vs[i]? = some v) : ∃ c, cs[i]? = some c ∧ VR G c v := by
  have hl := h.length
  have hi : i < vs.length := by
    rcases Nat.lt_or_ge i vs.length with h' | h'
    · exact h'
    · simp [List.getElem?_eq_none h'] at hv
  have : ∃ c, cs[i]? = some c := ⟨cs[i]'(by omega), by simp [hl, hi]⟩
  obtain ⟨c, hc⟩ := this
  obtain ⟨v', hv', hr⟩ := h.get i c hc
  rw [hv] at hv'
  cases hv'
  exact ⟨c, hc, hr⟩
theorem VRs.of_get : ∀ {cs : List AV} {vs : List Value}, cs.length = vs.length → (∀ (i : Nat) (c : AV) (v : Value), cs[i]? = some c → vs[i]? = some v → VR G c v) → VRs G cs vs
  | [], [], _, _ => .nil
  | [], _ :: _, h, _ => by simp at h
  | _ :: _, [], h, _ => by simp at h
  | c :: cs, v :: vs, h, hh => .cons c v cs vs (hh 0 c v rfl rfl) (VRs.of_get (by simpa using h) fun i c' v' hc hv => hh (i + 1) c' v' (by simpa using hc) (by simpa using hv))
theorem VRs.append {a b : List AV} {x y : List Value} (h : VRs G a x) (k : VRs G b y) : VRs G (a ++ b) (x ++ y) := by
  induction a generalizing x with
  | nil => cases h; simpa using k
  | cons c a ih => cases h with | cons _ v _ x h r => exact .cons _ _ _ _ h (ih r)
theorem VRs.take {a : List AV} {x : List Value} (h : VRs G a x) : ∀ n, VRs G (a.take n) (x.take n) := by
  induction a generalizing x with
  | nil => cases h; intro n; simpa using VRs.nil
  | cons c a ih =>
    cases h with | cons _ v _ x h r =>
    intro n
    cases n with
    | zero => exact .nil
    | succ n => exact .cons _ _ _ _ h (ih r n)
theorem VRs.drop {a : List AV} {x : List Value} (h : VRs G a x) : ∀ n, VRs G (a.drop n) (x.drop n) := by
  induction a generalizing x with
  | nil => cases h; intro n; simpa using VRs.nil
  | cons c a ih =>
    cases h with | cons _ v _ x h r =>
    intro n
    cases n with
    | zero => exact .cons _ _ _ _ h r
    | succ n => simpa using ih r n
theorem VRs.map {a : List AV} {x : List Value} (f : AV → AV) (hf : ∀ c v, VR G c v → VR G (f c) v) (h : VRs G a x) : VRs G (a.map f) x := by
  induction a generalizing x with
  | nil => cases h; exact .nil
  | cons c a ih => cases h with | cons _ v _ x h r => exact .cons _ _ _ _ (hf _ _ h) (ih r)

theorem VR.sl_false {o : Bool} {xs : List AV} {v : Value} (h : VR G (.sl o xs) v) : VR G (.sl false xs) v := by
  cases h with
  | sl0f a c => exact .sl0f a c
  | sl0t a => exact .sl0f a 0
  | sl o x xs cs b off es n c hes hcs hn hc h => exact .sl false x xs cs b off es n c hes hcs hn hc h
theorem VR.clr {c : AV} {v : Value} (h : VR G c v) : VR G c.clr v := by
  unfold AV.clr
  split
  · exact h
  · exact h.sl_false
  · exact h
theorem VR.nrm0 {c : AV} {v : Value} (h : VR G c v) : VR G c.nrm0 v := by
  unfold AV.nrm0
  split
  · exact h.sl_false
  · exact h
theorem AV.leaf_clr (v : AV) : v.clr.leaf = v.leaf := by unfold AV.clr; split <;> rfl
theorem AV.leaf_nrm0 (v : AV) : v.nrm0.leaf = v.leaf := by unfold AV.nrm0; split <;> rfl
theorem allLeaf_iff {cs : List AV} : allLeaf cs = true ↔ ∀ c ∈ cs, c.leaf = true := by
  induction cs with
  | nil => simp [allLeaf]
  | cons c cs ih => simp [allLeaf, ih]
theorem allLeaf_map {f : AV → AV} (hf : ∀ v, (f v).leaf = v.leaf) {cs : List AV} (h : allLeaf cs = true) : allLeaf (cs.map f) = true := by
  rw [allLeaf_iff] at *
  intro c hc
  obtain ⟨x, hx, rfl⟩ := List.mem_map.1 hc
  rw [hf]; exact h x hx
theorem allLeaf_take {cs : List AV} (h : allLeaf cs = true) (n : Nat) : allLeaf (cs.take n) = true :=
  allLeaf_iff.2 fun c hc => allLeaf_iff.1 h c (List.mem_of_mem_take hc)
theorem allLeaf_drop {cs : List AV} (h : allLeaf cs = true) (n : Nat) : allLeaf (cs.drop n) = true :=
  allLeaf_iff.2 fun c hc => allLeaf_iff.1 h c (List.mem_of_mem_drop hc)
theorem allLeaf_append {a b : List AV} : allLeaf (a ++ b) = true ↔ allLeaf a = true ∧ allLeaf b = true := by
  simp only [allLeaf_iff, List.mem_append]
  exact ⟨fun h => ⟨fun c hc => h c (.inl hc), fun c hc => h c (.inr hc)⟩, fun h c hc => hc.elim (h.1 c) (h.2 c)⟩
theorem allLeaf_get {cs : List AV} (h : allLeaf cs = true) {i : Nat} {c : AV} (hc : cs[i]? = some c) : c.leaf = true :=
  allLeaf_iff.1 h c (List.mem_of_getElem? hc)
theorem VR.nrm {c : AV} {v : Value} (h : VR G c v) : VR G c.nrm v := by
  unfold AV.nrm
  split
  · exact h.sl_false
  · cases h with | agg cs vs hl h => exact .agg _ _ (allLeaf_map AV.leaf_nrm0 hl) (h.map _ fun _ _ => VR.nrm0)
  · exact h

theorem AV.ok_clr (v : AV) : v.clr.ok = v.ok := by unfold AV.clr; split <;> rfl
theorem AV.ok_nrm (v : AV) : v.nrm.ok = v.ok := by unfold AV.nrm; split <;> rfl
theorem AV.clr_clr (v : AV) : v.clr.clr = v.clr := by
  cases v <;> try rfl
  rename_i o xs
  cases o <;> cases xs <;> rfl

theorem VR.oneCell {c : AV} {v : Value} (h : VR G c v) (hl : c.leaf = true) : v.oneCell' = true := by
  cases h <;> first | rfl | simp [AV.leaf] at hl
theorem VR.notLptr {b o : Nat} {v : Value} : ¬ VR G (.lptr b o) v := by intro h; cases h
theorem VR.notUndef {v : Value} : ¬ VR G .undef v := by intro h; cases h
theorem VR.ok_of {c : AV} {v : Value} (h : VR G c v) (ht : ∀ vs, c ≠ .tup vs) : c.ok = true := by
  cases h <;> first | rfl | exact absurd rfl (ht _)
theorem VR.cells {c : AV} {v : Value} (h : VR G c v) (hok : c.ok = true) : VRs G c.cells v.cells.toList := by
  cases h with
  | agg cs vs hl h => exact h
  | tup cs vs h => simp [AV.ok] at hok
  | _ => exact .cons _ _ _ _ (by constructor <;> assumption) .nil
theorem VR.cells_leaf {c : AV} {v : Value} (h : VR G c v) (hok : c.ok = true) : allLeaf c.cells = true := by
  cases h <;> first | assumption | rfl | (simp [AV.ok] at hok)
theorem VR.cells_length {c : AV} {v : Value} (h : VR G c v) (hok : c.ok = true) : c.cells.length = v.cells.size := by
  have := (h.cells hok).length
  simpa using this

/-! ### cells of constant memory -/
theorem CA.get {b : Nat} : ∀ {cs : List AV} {off : Nat}, CA G b off cs → ∀ (i : Nat) (c : AV), cs[i]? = some c → ∃ v, G.con b (off + i) = some v ∧ c.leaf = true ∧ VR G c v := by
  intro cs
  induction cs with
  | nil => intro off _ i c hc; simp at hc
  | cons x cs ih =>
    intro off h i c hc
    cases h with | cons _ _ _ v _ hcon hl hv r =>
    cases i with
    | zero => simp at hc; subst hc; exact ⟨v, hcon, hl, hv⟩
    | succ i =>
      obtain ⟨u, hu, h1, h2⟩ := ih r i c (by simpa using hc)
      exact ⟨u, by rw [← hu]; congr 1; omega, h1, h2⟩
theorem CA.of_get {b : Nat} : ∀ {cs : List AV} {off : Nat}, (∀ (i : Nat) (c : AV), cs[i]? = some c → ∃ v, G.con b (off + i) = some v ∧ c.leaf = true ∧ VR G c v) → CA G b off cs
  | [], off, _ => .nil b off
  | c :: cs, off, h => by
    obtain ⟨v, h1, h2, h3⟩ := h 0 c rfl
    exact .cons b off c v cs h1 h2 h3 (CA.of_get fun i c' hc => by
      obtain ⟨u, hu, k1, k2⟩ := h (i + 1) c' (by simpa using hc)
      exact ⟨u, by rw [← hu]; congr 1; omega, k1, k2⟩)
theorem CA.drop {b off : Nat} {cs : List AV} (h : CA G b off cs) (n : Nat) : CA G b (off + n) (cs.drop n) :=
  CA.of_get fun i c hc => by
    obtain ⟨v, h1, h2⟩ := h.get (n + i) c (by simpa using hc)
    exact ⟨v, by rw [← h1]; congr 1; omega, h2⟩
theorem CA.take {b off : Nat} {cs : List AV} (h : CA G b off cs) (n : Nat) : CA G b off (cs.take n) :=
  CA.of_get fun i c hc => h.get i c (by
    rw [List.getElem?_take] at hc
    split at hc
    · exact hc
    · cases hc)
theorem CA.append {b off : Nat} {cs ds : List AV} (h : CA G b off cs) (k : CA G b (off + cs.length) ds) : CA G b off (cs ++ ds) :=
  CA.of_get fun i c hc => by
    rw [List.getElem?_append] at hc
    split at hc
    · exact h.get i c hc
    · rename_i hlt
      obtain ⟨v, h1, h2⟩ := k.get (i - cs.length) c hc
      exact ⟨v, by rw [← h1]; congr 1; omega, h2⟩
theorem CA.leaf {b off : Nat} {cs : List AV} (h : CA G b off cs) : ∀ c ∈ cs, c.leaf = true := by
  intro c hc
  obtain ⟨i, hi⟩ := List.mem_iff_getElem?.1 hc
  obtain ⟨_, _, h, _⟩ := h.get i c hi
  exact h

/-- elements of one size: where the i-th lies -/
theorem flat_take {es : Nat} : ∀ {xs : List AV}, (∀ y ∈ xs, y.cells.length = es) → ∀ n, n ≤ xs.length → (xs.flatMap AV.cells).take (n * es) = (xs.take n).flatMap AV.cells
  | _, _, 0, _ => by simp
  | [], _, n + 1, h => by simp at h
  | x :: xs, hes, n + 1, h => by
    have hx := hes x (by simp)
    simp only [List.flatMap_cons, List.take_succ_cons]
    rw [List.take_append, ← flat_take (xs := xs) (fun y hy => hes y (by simp [hy])) n (by simpa using h), List.take_of_length_le (by rw [hx, Nat.add_mul]; omega)]
    congr 2
    rw [hx, Nat.add_mul]; omega
theorem flat_length {es : Nat} : ∀ {xs : List AV}, (∀ y ∈ xs, y.cells.length = es) → (xs.flatMap AV.cells).length = xs.length * es
  | [], _ => by simp
  | x :: xs, hes => by
    simp only [List.flatMap_cons, List.length_append, List.length_cons]
    rw [flat_length (xs := xs) (fun y hy => hes y (by simp [hy])), hes x (by simp), Nat.add_mul]
    omega
theorem flat_drop {es : Nat} : ∀ {xs : List AV}, (∀ y ∈ xs, y.cells.length = es) → ∀ n, n ≤ xs.length → (xs.flatMap AV.cells).drop (n * es) = (xs.drop n).flatMap AV.cells
  | _, _, 0, _ => by simp
  | [], _, n + 1, h => by simp at h
  | x :: xs, hes, n + 1, h => by
    have hx := hes x (by simp)
    simp only [List.flatMap_cons, List.drop_succ_cons]
    rw [← flat_drop (xs := xs) (fun y hy => hes y (by simp [hy])) n (by simpa using h), List.drop_append, List.drop_of_length_le (by rw [hx, Nat.add_mul]; omega)]
    simp only [List.nil_append]
    congr 1
    rw [hx, Nat.add_mul]; omega
theorem flat_elem {es : Nat} {xs : List AV} (hes : ∀ y ∈ xs, y.cells.length = es) {i : Nat} {x : AV} (hi : xs[i]? = some x) :
    ((xs.flatMap AV.cells).drop (i * es)).take es = x.cells := by
  have hlt : i < xs.length := by
    rcases Nat.lt_or_ge i xs.length with h' | h'
    · exact h'
    · simp [List.getElem?_eq_none h'] at hi
  rw [flat_drop hes i (by omega)]
  have hd : xs.drop i = x :: xs.drop (i + 1) := by
    rw [List.drop_eq_getElem_cons hlt]
    congr 1
    rw [List.getElem?_eq_getElem hlt] at hi
    exact Option.some.inj hi
  rw [hd, List.flatMap_cons]
  exact List.take_left' (hes x (List.mem_of_getElem? hi))

/-! ### what holds nothing of the heap stands for the same whatever the roles -/
structure GCon (G G' : Gho) : Prop where
  con : ∀ b o v, G.con b o = some v → G'.con b o = some v
  obj : ∀ b x, G.obj b = some x → G'.obj b = some x

theorem pures_append (a b : List AV) : AV.pures (a ++ b) = (AV.pures a && AV.pures b) := by
  induction a with
  | nil => simp [AV.pures]
  | cons x a ih => simp [AV.pures, ih, Bool.and_assoc]
theorem pures_cells {x : AV} (h : x.pure = true) : AV.pures x.cells = true := by
  cases x <;> simp only [AV.cells, AV.pures, AV.pure, Bool.and_true] at h ⊢ <;> first | exact h | (exfalso; revert h; simp)
theorem pures_flat {xs : List AV} (h : AV.pures xs = true) : AV.pures (xs.flatMap AV.cells) = true := by
  induction xs with
  | nil => rfl
  | cons x xs ih =>
    simp only [AV.pures, Bool.and_eq_true] at h
    simp only [List.flatMap_cons, pures_append, Bool.and_eq_true]
    exact ⟨pures_cells h.1, ih h.2⟩

theorem VR.ofFlat {c : AV} {v : Value} (h : VR G c v) (hf : c.flat = true) : VR G' c v := by
  cases h <;> simp only [AV.flat, Bool.false_eq_true] at hf <;> first | (constructor; done) | (constructor <;> assumption) | skip
  rename_i cs vs hl h
  cases cs with
  | nil => cases h; exact .agg [] [] rfl .nil
  | cons _ _ => simp at hf
theorem MEs.ofFlat : ∀ {es : List (AV × AV)} {l : List MapEntry}, MEs G es l → (es.all fun p => p.1.flat && p.2.flat) = true → MEs G' es l := by
  intro es
  induction es with
  | nil => intro l h _; cases h; exact .nil
  | cons p es ih =>
    intro l h hf
    cases h with | cons k u e es l hk hkl hv r =>
    simp only [List.all_cons, Bool.and_eq_true] at hf
    exact .cons k u e es l (hk.ofFlat hf.1.1) hkl (hv.ofFlat hf.1.2) (ih r (by simpa using hf.2))
theorem VR.ofPure_all (hg : GCon G G') :
    (∀ {c : AV} {v : Value}, VR G c v → c.pure = true → VR G' c v) ∧ (∀ {cs : List AV} {vs : List Value}, VRs G cs vs → AV.pures cs = true → VRs G' cs vs) ∧
    (∀ {b off : Nat} {cs : List AV}, CA G b off cs → AV.pures cs = true → CA G' b off cs) := by
  have base : ∀ {c : AV} {v : Value}, VR G c v → c.pure = true → VR G' c v := fun {c v} h =>
    VR.rec (motive_1 := fun c v _ => c.pure = true → VR G' c v) (motive_2 := fun cs vs _ => AV.pures cs = true → VRs G' cs vs)
      (motive_3 := fun b off cs _ => AV.pures cs = true → CA G' b off cs) (motive_4 := fun es l _ => True)
      (fun b _ => .bool b) (fun k n _ => .int k n) (fun s b h _ => .str s b h) (fun cs vs hl _ ih hp => .agg cs vs hl (ih (by simpa [AV.pure] using hp))) (fun cs vs _ ih hp => .tup cs vs (ih (by simpa [AV.pure] using hp)))
      (fun a c _ => .sl0f a c) (fun a _ => .sl0t a)
      (fun o x xs cs b off es n c hes hcs hn hc _ ih hp => .sl o x xs cs b off es n c hes hcs hn hc (ih (by subst hcs; exact pures_flat (by simpa [AV.pure] using hp))))
      (fun cs b off _ ih hp => .cptr cs b off (ih (by simpa [AV.pure] using hp))) (fun _ => .nptr) (fun i o k h hp => by simp [AV.pure] at hp)
      (fun i o es n k c h hc hp => by simp [AV.pure] at hp) (fun f a b va vb _ _ ha hb hp => by simp only [AV.pure, Bool.and_eq_true] at hp; exact .fn f a b va vb (ha hp.1) (hb hp.2)) (fun i k h hp => by simp [AV.pure] at hp) (fun _ => .nfn)
      (fun t v w _ ih hp => .ifc t v w (ih (by simpa [AV.pure] using hp))) (fun _ => .nifc)
      (fun es es' k l clk ho hpm hd h _ hp => .cmap es es' k l clk (hg.obj _ _ ho) hpm hd (h.ofFlat (by
        simp only [AV.pure, List.all_eq_true] at hp ⊢
        exact fun x hx => hp x (hpm.mem_iff.1 hx)))) (fun i k h hp => by simp [AV.pure] at hp) (fun _ => .nmap)
      (fun _ => .nil) (fun c v cs vs _ _ h r hp => by simp only [AV.pures, Bool.and_eq_true] at hp; exact .cons c v cs vs (h hp.1) (r hp.2))
      (fun b off _ => .nil b off) (fun b off c v cs hc hl _ _ h r hp => by simp only [AV.pures, Bool.and_eq_true] at hp; exact .cons b off c v cs (hg.con _ _ _ hc) hl (h hp.1) (r hp.2))
      trivial (fun _ _ _ _ _ _ _ _ _ _ _ _ => trivial) h
  have bs : ∀ {cs : List AV} {vs : List Value}, VRs G cs vs → AV.pures cs = true → VRs G' cs vs := by
    intro cs
    induction cs with
    | nil => intro vs h _; cases h; exact .nil
    | cons c cs ih =>
      intro vs h hp
      cases h with | cons _ v _ vs h r =>
      simp only [AV.pures, Bool.and_eq_true] at hp
      exact .cons _ _ _ _ (base h hp.1) (ih r hp.2)
  refine ⟨base, bs, ?_⟩
  intro b off cs h hp
  refine CA.of_get fun i c hc => ?_
  obtain ⟨v, h1, h2, h3⟩ := h.get i c hc
  have : c.pure = true := by
    clear h h1 h2 h3
    induction cs generalizing i with
    | nil => simp at hc
    | cons x cs ih =>
      simp only [AV.pures, Bool.and_eq_true] at hp
      cases i with
      | zero => simp at hc; subst hc; exact hp.1
      | succ i => exact ih hp.2 i (by simpa using hc)
  exact ⟨v, hg.con _ _ _ h1, h2, base h3 this⟩
end Go.Lt
namespace Go.Lt
open Go

def Own (G : Gho) (w : World) (p : Pl) (c : AV) (v : Value) : Prop :=
  ∀ x xs, c = .sl true (x :: xs) → ∀ (a : Addr) (n cap : Nat), v = .slice (some a) n cap →
    cap = n ∨ (G.role a.block = .tail p ∧ ∃ arr e, w.heap[a.block]? = some (.cells arr e (0, 0)) ∧ a.off + cap * x.cells.length ≤ arr.size ∧
      ∀ o, a.off + n * x.cells.length ≤ o → G.con a.block o = none)

theorem Own.of_clr {G : Gho} {w : World} {p : Pl} {c : AV} {v : Value} : Own G w p c.clr v := by
  intro x xs h
  unfold AV.clr at h
  split at h <;> simp_all
theorem Own.of_nrm {G : Gho} {w : World} {p : Pl} {c : AV} {v : Value} : Own G w p c.nrm v := by
  intro x xs h
  unfold AV.nrm at h
  split at h <;> simp_all
theorem Own.of_nrm0 {G : Gho} {w : World} {p : Pl} {c : AV} {v : Value} : Own G w p c.nrm0 v := by
  intro x xs h
  unfold AV.nrm0 at h
  split at h <;> simp_all
theorem Own.of_ne {G : Gho} {w : World} {p : Pl} {c : AV} {v : Value} (h : ∀ x xs, c ≠ .sl true (x :: xs)) : Own G w p c v :=
  fun x xs hc => absurd hc (h x xs)

structure CR (G : Gho) (w : World) (pl : Nat → Pl) (cs : List AV) (arr : Array Value) : Prop where
  len : cs.length ≤ arr.size
  get : ∀ (j : Nat) (c : AV) (v : Value), cs[j]? = some c → arr[j]? = some v → c.leaf = true ∧ VR G c v ∧ Own G w (pl j) c v

def VT (G : Gho) (c : AV) (v : Value) : Prop :=
  match c with
  | .lptr i o => ∃ k, G.role k = .loc i ∧ v = .pointer (some ⟨k, o, none⟩)
  | c => VR G c v

theorem VT.of {G : Gho} {c : AV} {v : Value} (h : VR G c v) : VT G c v := by
  unfold VT
  split
  · exact absurd h VR.notLptr
  · exact h
theorem VT.vr {G : Gho} {c : AV} {v : Value} (h : VT G c v) (hc : ∀ i o, c ≠ .lptr i o) : VR G c v := by
  unfold VT at h
  split at h
  · exact absurd rfl (hc _ _)
  · exact h

def LStR : LSt → LoopState → Prop
  | .ready, .ready | .busy, .busy | .done, .done | .exhausted, .exhausted => True
  | _, _ => False
def PendR : Pend → Option Code → Prop
  | .none, none => True
  | .ret, some .ret => True
  | .exit i, some (.exit j) => i = j
  | _, _ => False

/-- the temporaries of a loop that ranges over a function: no right to grow, no local block -/
def EnvC (G : Gho) (e : Env) (tmps : Array Value) : Prop :=
  ∀ t, e.get t ≠ .undef → VR G (e.get t) (tmps.getD t undef) ∧ ∀ x xs, e.get t ≠ .sl true (x :: xs)

section
variable (CO : Nat → Code → AC → Prop)

def BR (G : Gho) (w : World) (i : Nat) : Blk → Obj → Prop
  | .dead, _ => True
  | .cells cs, .cells arr _ fr => fr = (0, 0) ∧ CR G w (.hc i) cs arr
  | .map es, .map entries _ => MEs G es entries.toList
  | .loop st pend e ps asg body, .loop L => LStR st L.state ∧ PendR pend L.pending ∧ L.params = ⟨ps⟩ ∧ CO L.tmps.size L.assign asg ∧ CO L.tmps.size L.body body ∧ EnvC G e L.tmps ∧
      ∀ p ∈ ps, p < L.tmps.size
  | _, _ => False

structure StRel (G : Gho) (h : List Blk) (w : World) : Prop where
  con : ∀ b o v, G.con b o = some v → w.cell? ⟨b, o, none⟩ = some v
  obj : ∀ b x, G.obj b = some x → w.heap[b]? = some (.map x.1 x.2)
  lt : ∀ b, G.role b ≠ .none → b < w.heap.size
  sep : ∀ b, (∀ i, G.role b = .heap i → h[i]? = some .dead ∨ ((∀ o, G.con b o = none) ∧ G.obj b = none)) ∧ (∀ i, G.role b = .loc i → (∀ o, G.con b o = none) ∧ G.obj b = none)
  heap : ∀ b i, G.role b = .heap i → ∃ blk o, h[i]? = some blk ∧ w.heap[b]? = some o ∧ BR CO G w i blk o
  uniq : ∀ b b' i, G.role b = .heap i → G.role b' = .heap i → b = b'

def EnvRel (G : Gho) (w : World) (e : Env) (a : Act) : Prop :=
  ∀ t, e.get t ≠ .undef → VT G (e.get t) (a.tmps.getD t undef) ∧ Own G w (.tmp t) (e.get t) (a.tmps.getD t undef)

structure LocRel (G : Gho) (w : World) (l : Loc) : Prop where
  get : ∀ i cs, l.get i = some cs → ∃ k arr e, G.role k = .loc i ∧ w.heap[k]? = some (.cells arr e (0, 0)) ∧ CR G w (.lc i) cs arr
  uniq : ∀ b b' i, G.role b = .loc i → G.role b' = .loc i → b = b'
  some : ∀ b i, G.role b = .loc i → (l.get i).isSome = true

/-- the deferred calls, with the marks of loops over functions among them -/
inductive DR (G : Gho) (w : World) : List (AV × List AV) → List Deferred → Prop
  | nil : DR G w [] []
  | mark (r : Nat) (d : List (AV × List AV)) (ds : List Deferred) (hr : w.heap[r]? = some (.deferred (some []))) (hn : G.role r = .none) (hm : ∃ b, G.mrk = some b ∧ b ≤ r) (hf : ∀ x ∈ ds, x.target ≠ .collected r) (h : DR G w d ds) :
      DR G w d ({ target := .collected r, args := #[] } :: ds)
  | call (f : Nat) (a b as : List AV) (va vb vs : List Value) (d : List (AV × List AV)) (ds : List Deferred) (ha : VRs G a va) (hb : VRs G b vb) (hs : VRs G as vs) (h : DR G w d ds) :
      DR G w ((.fn f a b, as) :: d) ({ target := .fn (.func f) ⟨vb⟩, args := ⟨va⟩ ++ ⟨vs⟩ } :: ds)

structure SR (C : Cfg) (N : Nat) (G : Gho) (w : World) (s : St) (a : Act) : Prop where
  st : StRel CO G s.h w
  env : EnvRel G w s.e a
  loc : LocRel G w s.l
  dr : DR G w s.d a.defers
  size : a.tmps.size = N
  gl : ∀ g, C.gl g ≠ .undef → VR G (C.gl g) (.pointer (some ⟨g, 0, none⟩))

structure Le (G : Gho) (w : World) (G' : Gho) (w' : World) : Prop where
  gle : GLe G G'
  size : w.heap.size ≤ w'.heap.size
  os : w'.os = w.os
  out : w'.output = w.output
  tape : w'.tape = w.tape
  same : ∀ k, k < w.heap.size → G.role k = .none → w'.heap[k]? = w.heap[k]? ∧ G'.role k = .none
  cons : ∀ b o v, G'.con b o = some v → G.con b o = none → w.heap.size ≤ b ∨ G.role b ≠ .none
  mrk : G'.mrk = G.mrk
  objs : ∀ b x, G'.obj b = some x → G.obj b = some x
end

theorem Le.refl (G : Gho) (w : World) : Le G w G w :=
  ⟨.refl G, Nat.le_refl _, rfl, rfl, rfl, fun _ _ h => ⟨rfl, h⟩, fun b o v h k => (by rw [h] at k; cases k), rfl, fun _ _ h => h⟩
theorem Le.trans {A B C : Gho} {x y z : World} (h : Le A x B y) (k : Le B y C z) : Le A x C z where
  gle := h.gle.trans k.gle
  size := Nat.le_trans h.size k.size
  os := k.os.trans h.os
  out := k.out.trans h.out
  tape := k.tape.trans h.tape
  mrk := k.mrk.trans h.mrk
  objs b x hx := h.objs b x (k.objs b x hx)
  same b hb hr := by
    obtain ⟨h1, h2⟩ := h.same b hb hr
    obtain ⟨k1, k2⟩ := k.same b (Nat.lt_of_lt_of_le hb h.size) h2
    exact ⟨k1.trans h1, k2⟩
  cons b o v hc hn := by
    cases hB : B.con b o with
    | some u => exact h.cons b o u hB hn
    | none =>
      rcases k.cons b o v hc hB with h1 | h1
      · exact .inl (Nat.le_trans h.size h1)
      · rcases Nat.lt_or_ge b x.heap.size with hlt | hge
        · refine .inr fun hr => h1 (h.same b hlt hr).2
        · exact .inl hge

/-- all old blocks but those of T are as they were, in every respect -/
structure Keep (T : Nat → Prop) (G : Gho) (w : World) (G' : Gho) (w' : World) : Prop where
  gle : GLe G G'
  heap : ∀ k, k < w.heap.size → ¬ T k → w'.heap[k]? = w.heap[k]?
  con : ∀ k o, k < w.heap.size → ¬ T k → G'.con k o = G.con k o
  role : ∀ k, k < w.heap.size → ¬ T k → G'.role k = G.role k

section
variable {T : Nat → Prop} {G G' : Gho} {w w' : World}
theorem Own.keep (hk : Keep T G w G' w') (hl : ∀ k, G.role k ≠ .none → k < w.heap.size) {p : Pl} {c : AV} {v : Value} (hp : ∀ k, G.role k = .tail p → ¬ T k) (h : Own G w p c v) : Own G' w' p c v := by
  intro x xs hc a n cap hv
  rcases h x xs hc a n cap hv with h | ⟨hr, arr, e, hb, hs, hn⟩
  · exact .inl h
  · have hlt := hl a.block (by rw [hr]; simp)
    have hT := hp _ hr
    exact .inr ⟨(hk.role _ hlt hT).trans hr, arr, e, (hk.heap _ hlt hT).trans hb, hs, fun o ho => (hk.con _ _ hlt hT).trans (hn o ho)⟩
theorem CR.keep (hk : Keep T G w G' w') (hl : ∀ k, G.role k ≠ .none → k < w.heap.size) {pl : Nat → Pl} {cs : List AV} {arr : Array Value} (hp : ∀ j k, G.role k = .tail (pl j) → ¬ T k) (h : CR G w pl cs arr) : CR G' w' pl cs arr :=
  ⟨h.len, fun j c v hc hv => let ⟨h1, h2, h3⟩ := h.get j c v hc hv; ⟨h1, h2.mono hk.gle, h3.keep hk hl (hp j)⟩⟩
theorem VT.mono (hle : GLe G G') (hloc : ∀ k i, G.role k = .loc i → G'.role k = .loc i) {c : AV} {v : Value} (h : VT G c v) : VT G' c v := by
  unfold VT at *
  split at h
  · obtain ⟨k, hk, hv⟩ := h; exact ⟨k, hloc k _ hk, hv⟩
  · exact h.mono hle
theorem BR.keep {CO : Nat → Code → AC → Prop} (hk : Keep T G w G' w') (hl : ∀ k, G.role k ≠ .none → k < w.heap.size) {i : Nat} (hp : ∀ j k, G.role k = .tail (.hc i j) → ¬ T k) {b : Blk} {o : Obj} (h : BR CO G w i b o) : BR CO G' w' i b o := by
  cases b <;> cases o <;> simp only [BR] at h ⊢
  · exact ⟨h.1, h.2.keep hk hl hp⟩
  · exact h.mono hk.gle
  · exact ⟨h.1, h.2.1, h.2.2.1, h.2.2.2.1, h.2.2.2.2.1, fun t ht => ⟨(h.2.2.2.2.2.1 t ht).1.mono hk.gle, (h.2.2.2.2.2.1 t ht).2⟩, h.2.2.2.2.2.2⟩
theorem EnvRel.keep (hk : Keep T G w G' w') (hl : ∀ k, G.role k ≠ .none → k < w.heap.size) {e : Env} {a : Act} (hp : ∀ t k, G.role k = .tail (.tmp t) → ¬ T k) (hloc : ∀ k i, G.role k = .loc i → G'.role k = .loc i)
    (h : EnvRel G w e a) : EnvRel G' w' e a :=
  fun t ht => ⟨(h t ht).1.mono hk.gle hloc, (h t ht).2.keep hk hl (hp t)⟩
theorem DR.keep (hle : GLe G G') (hmk : G'.mrk = G.mrk) (hm : ∀ r, r < w.heap.size → G.role r = .none → w'.heap[r]? = w.heap[r]? ∧ G'.role r = .none) {d : List (AV × List AV)} {ds : List Deferred} (h : DR G w d ds) : DR G' w' d ds := by
  induction h with
  | nil => exact .nil
  | mark r d ds hr hn hmm hf _ ih =>
    have hlt : r < w.heap.size := (Array.getElem?_eq_some_iff.1 hr).1
    obtain ⟨h1, h2⟩ := hm r hlt hn
    exact .mark r d ds (h1.trans hr) h2 (by rw [hmk]; exact hmm) hf ih
  | call f a b as va vb vs d ds ha hb hs _ ih => exact .call f a b as va vb vs d ds (ha.mono hle) (hb.mono hle) (hs.mono hle) ih
end

theorem DR.marks_lt {G : Gho} {w : World} {d : List (AV × List AV)} {ds : List Deferred} (h : DR G w d ds) : ∀ x ∈ ds, ∀ r, x.target = .collected r → r < w.heap.size := by
  induction h with
  | nil => intro x hx; cases hx
  | mark r d ds hr hn hmm hf _ ih =>
    intro x hx r' he
    rcases List.mem_cons.1 hx with rfl | hx
    · injection he with he
      subst he
      exact (Array.getElem?_eq_some_iff.1 hr).1
    · exact ih x hx r' he
  | call f a b as va vb vs d ds ha hb hs _ ih =>
    intro x hx r' he
    rcases List.mem_cons.1 hx with rfl | hx
    · cases he
    · exact ih x hx r' he

theorem cell_of_block {w : World} {b o : Nat} {arr : Array Value} {e : TypeId} {fr : Nat × Nat} (h : w.heap[b]? = some (.cells arr e fr)) : w.cell? ⟨b, o, none⟩ = arr[o]? := by
  simp [World.cell?, h]
theorem cell_same {w w' : World} {b : Nat} (h : w'.heap[b]? = w.heap[b]?) (o : Nat) : w'.cell? ⟨b, o, none⟩ = w.cell? ⟨b, o, none⟩ := by
  simp [World.cell?, h]

/-! ### a new block -/
section
variable {CO : Nat → Code → AC → Prop} {C : Cfg} {N : Nat} {G : Gho} {w w' : World} {s : St} {a : Act}
theorem push_old {x : Obj} (hw : w'.heap = w.heap.push x) {k : Nat} (hk : k < w.heap.size) : w'.heap[k]? = w.heap[k]? := by
  rw [hw, Array.getElem?_push]
  simp [Nat.ne_of_lt hk]
theorem push_new {x : Obj} (hw : w'.heap = w.heap.push x) : w'.heap[w.heap.size]? = some x := by rw [hw]; simp

/-- the ghost with a new block -/
def Gho.add (G : Gho) (n : Nat) (c : Nat → Option Value) (r : Role) : Gho :=
  { con := fun b o => if b = n then c o else G.con b o, obj := fun b => if b = n then none else G.obj b, role := fun b => if b = n then r else G.role b, mrk := G.mrk }

theorem StRel.fresh {h : List Blk} (hs : StRel CO G h w) : (∀ o, G.con w.heap.size o = none) ∧ G.obj w.heap.size = none ∧ G.role w.heap.size = .none := by
  refine ⟨fun o => ?_, ?_, ?_⟩
  · cases hc : G.con w.heap.size o with
    | none => rfl
    | some v =>
      have := World.block_lt_of_cell? w _ (hs.con _ _ _ hc)
      simp at this
  · cases hc : G.obj w.heap.size with
    | none => rfl
    | some v =>
      have := (Array.getElem?_eq_some_iff.1 (hs.obj _ _ hc)).1
      simp at this
  · cases hr : G.role w.heap.size with
    | none => rfl
    | _ => exact absurd (hs.lt w.heap.size (by rw [hr]; simp)) (Nat.lt_irrefl _)

theorem Gho.add_keep {h : List Blk} (hs : StRel CO G h w) {x : Obj} (hw : w'.heap = w.heap.push x) (c : Nat → Option Value) (r : Role) : Keep (fun _ => False) G w (G.add w.heap.size c r) w' where
  gle := by
    obtain ⟨h1, h2, h3⟩ := hs.fresh
    refine ⟨fun b o v hc => ?_, fun b x hx => ?_, fun b i hi => ?_⟩ <;> simp only [Gho.add]
    · rw [if_neg]; exact hc
      rintro rfl; rw [h1] at hc; cases hc
    · rw [if_neg]; exact hx
      rintro rfl; rw [h2] at hx; cases hx
    · rw [if_neg]; exact hi
      rintro rfl; rw [h3] at hi; cases hi
  heap k hk _ := push_old hw hk
  con k o hk _ := by simp [Gho.add, Nat.ne_of_lt hk]
  role k hk _ := by simp [Gho.add, Nat.ne_of_lt hk]

theorem Gho.add_le {h : List Blk} (hs : StRel CO G h w) {x : Obj} (hw : w'.heap = w.heap.push x) (ho : w'.os = w.os) (hu : w'.output = w.output) (ht : w'.tape = w.tape) (c : Nat → Option Value) (r : Role) : Le G w (G.add w.heap.size c r) w' where
  gle := (Gho.add_keep hs hw c r).gle
  size := by rw [hw]; simp
  os := ho
  out := hu
  tape := ht
  mrk := rfl
  objs b x hx := by
    simp only [Gho.add] at hx
    split at hx
    · cases hx
    · exact hx
  same k hk hr := ⟨push_old hw hk, by simp [Gho.add, Nat.ne_of_lt hk, hr]⟩
  cons b o v hc hn := by
    simp only [Gho.add] at hc
    split at hc
    · rename_i h; exact .inl (by omega)
    · rw [hn] at hc; cases hc

/-- the parts of a state's relation that a new block leaves alone -/
theorem SR.add_rest (hs : SR CO C N G w s a) {x : Obj} (hw : w'.heap = w.heap.push x) (c : Nat → Option Value) (r : Role) (hr : ∀ i, r ≠ .loc i) :
    EnvRel (G.add w.heap.size c r) w' s.e a ∧ LocRel (G.add w.heap.size c r) w' s.l ∧ DR (G.add w.heap.size c r) w' s.d a.defers := by
  have hk := Gho.add_keep hs.st hw c r
  have hl := hs.st.lt
  refine ⟨hs.env.keep hk hl (fun _ _ _ h => h) fun k i h => ?_, ⟨fun i cs h => ?_, fun b b' i h h' => ?_, fun b i h => ?_⟩, hs.dr.keep hk.gle rfl fun r' h1 h2 => ⟨hk.heap _ h1 id, (hk.role _ h1 id).trans h2⟩⟩
  · exact (hk.role k (hl k (by rw [h]; simp)) id).trans h
  · obtain ⟨k, arr, e, h1, h2, h3⟩ := hs.loc.get i cs h
    have hlt := hl k (by rw [h1]; simp)
    exact ⟨k, arr, e, (hk.role k hlt id).trans h1, (hk.heap k hlt id).trans h2, h3.keep hk hl fun _ _ _ h => h⟩
  · simp only [Gho.add] at h h'
    split at h
    · exact absurd h (hr i)
    · split at h'
      · exact absurd h' (hr i)
      · exact hs.loc.uniq b b' i h h'
  · simp only [Gho.add] at h
    split at h
    · exact absurd h (hr i)
    · exact hs.loc.some b i h

/-- a block of constant cells -/
theorem SR.const (hs : SR CO C N G w s a) {arr : Array Value} {e : TypeId} {fr : Nat × Nat} (hw : w'.heap = w.heap.push (.cells arr e fr)) :
    SR CO C N (G.add w.heap.size (fun o => arr[o]?) .none) w' s a := by
  have hk := Gho.add_keep hs.st hw (fun o => arr[o]?) .none
  obtain ⟨h1, h2, h3⟩ := hs.add_rest hw (fun o => arr[o]?) .none (by simp)
  have hl := hs.st.lt
  refine ⟨⟨fun b o v hc => ?_, fun b x hx => ?_, fun b hb => ?_, fun b => ⟨fun i hi => ?_, fun i hi => ?_⟩, fun b i hi => ?_, fun b b' i hi hi' => ?_⟩, h1, h2, h3, hs.size, fun g hg => (hs.gl g hg).mono hk.gle⟩
  · simp only [Gho.add] at hc
    split at hc
    · rename_i hb; subst hb; rw [cell_of_block (push_new hw)]; exact hc
    · rename_i hb
      have h := hs.st.con b o v hc
      have hlt := World.block_lt_of_cell? w _ h
      rw [cell_same (push_old hw hlt)]; exact h
  · simp only [Gho.add] at hx
    split at hx
    · cases hx
    · have h := hs.st.obj b x hx
      have hlt := (Array.getElem?_eq_some_iff.1 h).1
      rw [push_old hw hlt]; exact h
  · simp only [Gho.add] at hb
    split at hb
    · exact absurd rfl hb
    · have := hl b hb; rw [hw]; simp; omega
  · simp only [Gho.add] at hi ⊢
    split at hi
    · cases hi
    · rename_i hb
      simp only [hb, if_false]; exact (hs.st.sep b).1 i hi
  · simp only [Gho.add] at hi ⊢
    split at hi
    · cases hi
    · rename_i hb
      simp only [hb, if_false]; exact (hs.st.sep b).2 i hi
  · simp only [Gho.add] at hi
    split at hi
    · cases hi
    · obtain ⟨blk, o, k1, k2, k3⟩ := hs.st.heap b i hi
      have hlt := hl b (by rw [hi]; simp)
      exact ⟨blk, o, k1, (push_old hw hlt).trans k2, k3.keep hk hl fun _ _ _ h => h⟩
  · simp only [Gho.add] at hi hi'
    split at hi
    · cases hi
    · split at hi'
      · cases hi'
      · exact hs.st.uniq b b' i hi hi'

/-- a block of the heap's -/
theorem SR.heapNew (hs : SR CO C N G w s a) {x : Obj} (hw : w'.heap = w.heap.push x) (blk : Blk) (hb : ∀ G' w', GLe G G' → BR CO G' w' s.h.length blk x) :
    SR CO C N (G.add w.heap.size (fun _ => none) (.heap s.h.length)) w' { s with h := s.h ++ [blk] } a := by
  have hk := Gho.add_keep hs.st hw (fun _ => none) (.heap s.h.length)
  obtain ⟨h1, h2, h3⟩ := hs.add_rest hw (fun _ => none) (.heap s.h.length) (by simp)
  have hl := hs.st.lt
  refine ⟨⟨fun b o v hc => ?_, fun b x hx => ?_, fun b hb => ?_, fun b => ⟨fun i hi => ?_, fun i hi => ?_⟩, fun b i hi => ?_, fun b b' i hi hi' => ?_⟩, h1, h2, h3, hs.size, fun g hg => (hs.gl g hg).mono hk.gle⟩
  · simp only [Gho.add] at hc
    split at hc
    · cases hc
    · have h := hs.st.con b o v hc
      have hlt := World.block_lt_of_cell? w _ h
      rw [cell_same (push_old hw hlt)]; exact h
  · simp only [Gho.add] at hx
    split at hx
    · cases hx
    · have h := hs.st.obj b x hx
      have hlt := (Array.getElem?_eq_some_iff.1 h).1
      rw [push_old hw hlt]; exact h
  · simp only [Gho.add] at hb
    split at hb
    · rw [hw]; simp; omega
    · have := hl b hb; rw [hw]; simp; omega
  · simp only [Gho.add] at hi ⊢
    split at hi
    · rename_i hb; right; simp [hb]
    · rename_i hb
      simp only [hb, if_false]
      rcases (hs.st.sep b).1 i hi with hd | hd
      · left
        have hi' : i < s.h.length := (List.getElem?_eq_some_iff.1 hd).1
        rw [List.getElem?_append_left hi']; exact hd
      · exact .inr hd
  · simp only [Gho.add] at hi ⊢
    split at hi
    · cases hi
    · rename_i hb
      simp only [hb, if_false]; exact (hs.st.sep b).2 i hi
  · simp only [Gho.add] at hi
    split at hi
    · rename_i hbe
      cases hi
      refine ⟨blk, x, by simp, ?_, hb _ _ hk.gle⟩
      rw [hbe]; exact push_new hw
    · obtain ⟨blk', o, k1, k2, k3⟩ := hs.st.heap b i hi
      have hlt := hl b (by rw [hi]; simp)
      have hi' : i < s.h.length := (List.getElem?_eq_some_iff.1 k1).1
      exact ⟨blk', o, by rw [List.getElem?_append_left hi']; exact k1, (push_old hw hlt).trans k2, k3.keep hk hl fun _ _ _ h => h⟩
  · simp only [Gho.add] at hi hi'
    have hlen : ∀ b i, G.role b = .heap i → i < s.h.length := fun b i h => by
      obtain ⟨_, _, k1, _⟩ := hs.st.heap b i h
      exact (List.getElem?_eq_some_iff.1 k1).1
    split at hi
    · split at hi'
      · omega
      · have := hlen _ _ hi'; simp at hi; omega
    · split at hi'
      · have := hlen _ _ hi; simp at hi'; omega
      · exact hs.st.uniq b b' i hi hi'
end
end Go.Lt
