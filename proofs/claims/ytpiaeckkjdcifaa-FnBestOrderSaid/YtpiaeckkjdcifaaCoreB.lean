/- The core of the method, part B: what one operation does to an abstract state, and that it does so. No condition. -/
import Derived.Test.YtpiaeckkjdcifaaCoreA
namespace Go.Proofs.Ytpiaeckkjdcifaa
set_option linter.unusedVariables false
set_option linter.unusedSimpArgs false
open Go

def FT.zeroV : FT → Value
  | .i64 => .int .i64 0 | .u8 => .int .u8 0
  | .box => .agg #[.int .i64 0, .int .i64 0, .int .i64 0, .int .i64 0, .bool false]
  | .pair => .agg #[.int .i64 0, .int .i64 0]

inductive Kd where
  | bool | int (k : IntKind) | sl (e : TypeId) (τ : FT) | slr (e : TypeId) | str | other
structure TD where
  zeroV : Value
  size : Nat
  bytes : Nat
  kd : Kd

def aggT : TypeDesc → Bool
  | .struct _ | .array _ _ => true
  | _ => false
def structPlaces (P : Program) (t : TypeId) : Option (List (Nat × Nat × Bool)) :=
  match P.underlying t with
  | some (.struct fs) => fs.toList.mapM (fun f => match P.info? f.type, P.underlying f.type with
    | some i, some u => some (f.offset, i.size, aggT u)
    | _, _ => none)
  | _ => none
def infoOf (P : Program) (t : TypeId) : Option (Option Value × Nat × Nat) := (P.info? t).map fun i => (i.zero, i.size, i.bytes)

def TyOK (P : Program) (t : TypeId) (d : TD) : Prop :=
  infoOf P t = some (some d.zeroV, d.size, d.bytes) ∧ d.zeroV.cells.size = d.size ∧
  match d.kd with
  | .bool => P.underlying t = some .bool
  | .int k => P.underlying t = some (.int k)
  | .sl e τ => P.underlying t = some (.slice e) ∧ infoOf P e = some (some τ.zeroV, τ.size, τ.bytes)
  | .slr e => P.underlying t = some (.slice e) ∧ infoOf P e = some (some (.slice none 0 0), 1, 24)
  | .str => structPlaces P t = some ((List.range d.size).map fun k => (k, 1, false))
  | .other => (P.underlying t).map aggT = some false

structure CRes where
  pre : Prop
  res : AV
  new : List Own
  muts : List Own
inductive VK where
  | p | r (τ : FT) | rr
inductive Md where
  | v (k : VK) | m
structure Ctr where
  modes : List Md
  al : Bool
  run : List AV → List Own → Option CRes
  /-- Where the results are only described: what must hold ahead, and which results may come. -/
  rel : Option (List AV → List Own → Option (Prop × (CRes → Prop))) := none

mutual
def cleanV : AV → Bool
  | .int _ | .u8 _ | .bool _ | .val _ | .nils | .rs _ _ | .rows _ => true
  | .junk | .sl _ | .op _ _ | .oe _ _ _ _ | .when _ _ => false
  | .agg fs | .tup fs | .rp fs | .clo _ fs => cleanL fs
def cleanL : List AV → Bool
  | [] => true
  | x :: xs => cleanV x && cleanL xs
end
def cleanO : Own → Bool
  | .var cs => cleanL cs
  | _ => true

def oneV : Value → Bool := Value.oneCell'
/-- It takes one cell of memory. -/
def cell1 : AV → Bool
  | .int _ | .u8 _ | .bool _ | .nils | .rs _ _ | .rows _ | .rp _ | .clo _ _ => true
  | .val v => oneV v
  | _ => false

mutual
def renV (f : Nat → Nat) : AV → AV
  | .sl r => .sl (f r)
  | .op r o => .op (f r) o
  | .agg fs => .agg (renL f fs)
  | .tup fs => .tup (renL f fs)
  | .rp fs => .rp (renL f fs)
  | .clo g fs => .clo g (renL f fs)
  | x => x
def renL (f : Nat → Nat) : List AV → List AV
  | [] => []
  | x :: xs => renV f x :: renL f xs
end

mutual
/-- Only names below n. -/
def boundV (n : Nat) : AV → Bool
  | .int _ | .u8 _ | .bool _ | .val _ | .nils | .rs _ _ | .rows _ => true
  | .sl r | .op r _ => decide (r < n)
  | .junk | .oe _ _ _ _ | .when _ _ => false
  | .agg fs | .tup fs | .rp fs | .clo _ fs => boundL n fs
def boundL (n : Nat) : List AV → Bool
  | [] => true
  | x :: xs => boundV n x && boundL n xs
end
def flatO : Own → Bool
  | .sl _ _ _ | .mat _ _ _ => true
  | _ => false

/-- The arguments at a call: what is handed on to be read, what is lent to be written, and the names of what is read though it is owned. -/
def conv (al : Bool) (H : Nat → Option Own) : List Md → List AV → Option (List AV × List (Nat × Own) × List Nat)
  | [], [] => some ([], [], [])
  | .v .p :: ms, x :: xs => if cleanV x then (conv al H ms xs).map fun q => (x :: q.1, q.2.1, q.2.2) else none
  | .v (.r τ) :: ms, x :: xs =>
    match x with
    | .rs τ' ys => (conv al H ms xs).map fun q => (.rs τ' ys :: q.1, q.2.1, q.2.2)
    | .nils => (conv al H ms xs).map fun q => (.rs τ [] :: q.1, q.2.1, q.2.2)
    | .sl r => if al then none else
      match H r with
      | some (.sl _ τ' ys) => (conv al H ms xs).map fun q => (.rs τ' ys :: q.1, q.2.1, r :: q.2.2)
      | _ => none
    | _ => none
  | .v .rr :: ms, x :: xs =>
    match x with
    | .rows ys => (conv al H ms xs).map fun q => (.rows ys :: q.1, q.2.1, q.2.2)
    | .nils => (conv al H ms xs).map fun q => (.rows [] :: q.1, q.2.1, q.2.2)
    | .sl r => if al then none else
      match H r with
      | some (.rows _ ys) => (conv al H ms xs).map fun q => (.rows ys :: q.1, q.2.1, r :: q.2.2)
      | some (.mat _ _ ys) => (conv al H ms xs).map fun q => (.rows ys :: q.1, q.2.1, r :: q.2.2)
      | _ => none
    | _ => none
  | .m :: ms, x :: xs =>
    match x with
    | .sl r => match H r with
      | some o => (conv al H ms xs).map fun q => (q.1, (r, o) :: q.2.1, q.2.2)
      | none => none
    | .op r 0 => match H r with
      | some o => (conv al H ms xs).map fun q => (q.1, (r, o) :: q.2.1, q.2.2)
      | none => none
    | _ => none
  | _, _ => none

/-- May the call be made of these, and does it hand back so? -/
def callOK (C : Ctr) (os : List (Nat × Own)) (sn : List Nat) (R : CRes) : Bool :=
  decide (os.map (·.1)).Nodup && (sn.all fun r => !(os.map (·.1)).contains r) && R.new.all cleanO && R.muts.all cleanO && decide (R.muts.length = os.length) && (C.al || R.muts.all flatO) && (!C.al || sn.isEmpty) && (os.all fun p => cleanO p.2) && boundV R.new.length R.res

/-- The same in two parts: ahead of the call, and of what comes back. -/
def callOK0 (C : Ctr) (os : List (Nat × Own)) (sn : List Nat) : Bool :=
  decide (os.map (·.1)).Nodup && (sn.all fun r => !(os.map (·.1)).contains r) && (!C.al || sn.isEmpty) && (os.all fun p => cleanO p.2)
def callOK1 (C : Ctr) (os : List (Nat × Own)) (R : CRes) : Bool :=
  R.new.all cleanO && R.muts.all cleanO && decide (R.muts.length = os.length) && (C.al || R.muts.all flatO) && boundV R.new.length R.res

structure Eff where
  x : AV
  ups : List (Nat × Option Own)
  news : Nat
  vc : Prop

def look {α : Type} : List (Nat × α) → Nat → Option α
  | [], _ => none
  | (k, v) :: l, n => if n = k then some v else look l n
def applyUps (ups : List (Nat × Option Own)) (H : Nat → Option Own) (r : Nat) : Option Own :=
  match look ups r with
  | some x => x
  | none => H r

def ofVal : Value → AV
  | .int .i64 n => .int n
  | .int .u8 n => .u8 n
  | .bool b => .bool b
  | .slice none 0 0 => .nils
  | v => .val v

def inR (n : Int) : Prop := -9223372036854775808 ≤ n ∧ n ≤ 9223372036854775807

def binAV (op : BinOp) (x y : AV) : Option (AV × Prop) :=
  match x, y with
  | .int a, .int b =>
    match op with
    | .add => some (.int (a + b), inR (a + b))
    | .sub => some (.int (a - b), inR (a - b))
    | .mul => some (.int (a * b), inR (a * b))
    | .quo => some (.int (a / b), 0 ≤ a ∧ 0 < b ∧ inR a)
    | .rem => some (.int (a % b), 0 ≤ a ∧ 0 < b)
    | .and => some (.int ((a.toNat &&& b.toNat : Nat) : Int), 0 ≤ a ∧ 0 ≤ b ∧ inR a ∧ inR b)
    | .or => some (.int ((a.toNat ||| b.toNat : Nat) : Int), 0 ≤ a ∧ 0 ≤ b ∧ inR a ∧ inR b)
    | .xor => some (.int ((a.toNat ^^^ b.toNat : Nat) : Int), 0 ≤ a ∧ 0 ≤ b ∧ inR a ∧ inR b)
    | .shl => some (.int (a * 2 ^ b.toNat), 0 ≤ b ∧ b ≤ 62 ∧ inR (a * 2 ^ b.toNat))
    | .shr => some (.int (a / 2 ^ b.toNat), 0 ≤ b ∧ b ≤ 62)
    | .eql => some (.bool (decide (a = b)), True)
    | .neq => some (.bool (decide (a ≠ b)), True)
    | .lss => some (.bool (decide (a < b)), True)
    | .leq => some (.bool (decide (a ≤ b)), True)
    | .gtr => some (.bool (decide (b < a)), True)
    | .geq => some (.bool (decide (b ≤ a)), True)
    | _ => none
  | .bool a, .bool b =>
    match op with
    | .eql => some (.bool (a == b), True)
    | .neq => some (.bool (a != b), True)
    | _ => none
  | _, _ => none

def FT.of : (τ : FT) → AV → Option τ.T
  | .i64, .int n => some (n : Int)
  | .u8, .u8 n => some (n : Int)
  | .box, .agg [.int a, .int b, .int c, .int d, .bool e] => some (⟨a, b, c, d, e⟩ : BoxD)
  | .pair, .agg [.int a, .int b] => some (⟨a, b⟩ : PairD)
  | _, _ => none
def FT.setf : (τ : FT) → τ.T → Nat → AV → Option τ.T
  | .i64, _, 0, .int n => some (n : Int)
  | .box, b, 0, .int n => some ({ id := n, weight := b.weight, cls := b.cls, port := b.port, cold := b.cold } : BoxD)
  | .box, b, 1, .int n => some ({ id := b.id, weight := n, cls := b.cls, port := b.port, cold := b.cold } : BoxD)
  | .box, b, 2, .int n => some ({ id := b.id, weight := b.weight, cls := n, port := b.port, cold := b.cold } : BoxD)
  | .box, b, 3, .int n => some ({ id := b.id, weight := b.weight, cls := b.cls, port := n, cold := b.cold } : BoxD)
  | .box, b, 4, .bool n => some ({ id := b.id, weight := b.weight, cls := b.cls, port := b.port, cold := n } : BoxD)
  | .pair, p, 0, .int n => some ({ a := n, b := p.b } : PairD)
  | .pair, p, 1, .int n => some ({ a := p.a, b := n } : PairD)
  | _, _, _, _ => none

def cellsAV : AV → List AV
  | .agg fs => fs
  | x => [x]

def setAll (cs : List AV) : List (Nat × AV) → Option (List AV)
  | [] => some cs
  | (i, x) :: l => if i < cs.length ∧ cell1 x = true ∧ cleanV x = true then setAll (cs.set i x) l else none

def evL (ev : Operand → Option AV) : List Operand → Option (List AV)
  | [] => some []
  | x :: xs => match ev x, evL ev xs with
    | some y, some ys => some (y :: ys)
    | _, _ => none

/-- The elements of a slice that is written out. -/
def elems (τ : FT) : List AV → Option (List τ.T)
  | [] => some []
  | x :: xs => match FT.of τ x, elems τ xs with
    | some y, some ys => some (y :: ys)
    | _, _ => none
def elemsR (H : Nat → Option Own) : List AV → Option (List (List Int) × List (Nat × Option Own))
  | [] => some ([], [])
  | .rs .i64 xs :: l => (elemsR H l).map fun q => (xs :: q.1, q.2)
  | .nils :: l => (elemsR H l).map fun q => ([] :: q.1, q.2)
  | .sl r :: l => match H r with
    | some (.sl _ .i64 xs) => (elemsR H l).map fun q => (xs :: q.1, (r, none) :: q.2)
    | _ => none
  | _ :: _ => none

def rowsAV : List AV → Option (List (List Int))
  | [] => some []
  | .rs .i64 xs :: l => (rowsAV l).map fun q => xs :: q
  | .nils :: l => (rowsAV l).map fun q => [] :: q
  | _ :: _ => none

def maxAV : List AV → Option Int
  | [.int a] => some a
  | .int a :: .int b :: l => maxAV (.int (max a b) :: l)
  | _ => none
termination_by l => l.length
def minAV : List AV → Option Int
  | [.int a] => some a
  | .int a :: .int b :: l => minAV (.int (min a b) :: l)
  | _ => none
termination_by l => l.length

section
variable (T : TypeId → Option TD) (Γ : FuncId → Option Ctr)

def isStr (d : TD) : Bool := match d.kd with | .str => true | _ => false

def loadAV (H : Nat → Option Own) (d : TD) (x : AV) : Option (AV × Prop) :=
  match x with
  | .rp cs => if isStr d then (if cs.length = d.size then some (.agg cs, True) else none) else
    match cs with
    | c :: _ => some (c, True)
    | [] => none
  | .op r off => match H r with
    | some (.var cs) => if isStr d then (if off = 0 ∧ cs.length = d.size then some (.agg cs, True) else none) else (cs[off]?).map fun c => (c, True)
    | _ => none
  | .oe r z i k => match H r with
    | some (.sl _ τ xs) => if isStr d then (if k = 0 ∧ z = τ.size ∧ τ.size = d.size then some (.agg (τ.avs (xs.getD i.toNat τ.dflt)), True) else none) else
      (if z = τ.size then ((τ.avs (xs.getD i.toNat τ.dflt))[k]?).map fun c => (c, True) else none)
    | some (.rows _ xss) => if isStr d then none else (if k = 0 ∧ z = 1 then some (.rs .i64 (xss.getD i.toNat []), True) else none)
    | _ => none
  | _ => none

def rowQ : AV → Option Nat
  | .sl q => some q
  | _ => none
def ownInts : Option Own → Option (List Int)
  | some (.sl _ .i64 ys) => some ys
  | _ => none
def storeAV (H : Nat → Option Own) (d : TD) (x y : AV) : Option (List (Nat × Option Own)) :=
  match x with
  | .op r off => match H r with
    | some (.var cs) => if isStr d then
        (match y with
         | .agg fs => if off = 0 ∧ fs.length = cs.length ∧ cs.length = d.size ∧ cleanL fs = true ∧ fs.all cell1 = true then some [(r, some (.var fs))] else none
         | _ => none)
      else (if off < cs.length ∧ d.size = 1 ∧ cleanV y = true ∧ cell1 y = true then some [(r, some (.var (cs.set off y)))] else none)
    | _ => none
  | .oe r z i k => match H r with
    | some (.sl e τ xs) => if isStr d then
        (if k = 0 ∧ z = τ.size ∧ τ.size = d.size then (FT.of τ y).map fun u => [(r, some (.sl e τ (xs.set i.toNat u)))] else none)
      else (if z = τ.size ∧ d.size = 1 ∧ k < τ.size then (FT.setf τ (xs.getD i.toNat τ.dflt) k y).map fun u => [(r, some (.sl e τ (xs.set i.toNat u)))] else none)
    | some (.rows e xss) => if isStr d then none else
        (match rowQ y with
         | some q => if q ≠ r ∧ k = 0 ∧ z = 1 ∧ d.size = 1 then (match ownInts (H q) with
           | some ys => some [(r, some (.rows e (xss.set i.toNat ys))), (q, none)]
           | none => none) else none
         | none => match y with
           | .rs .i64 ys => if k = 0 ∧ z = 1 ∧ d.size = 1 then some [(r, some (.rows e (xss.set i.toNat ys)))] else none
           | _ => none)
    | _ => none
  | _ => none

def idxAV (H : Nat → Option Own) (d : TD) (x y : AV) : Option (AV × Prop) :=
  match y with
  | .int i => match d.kd with
    | .sl _ τ' => (match x with
      | .rs τ xs => if τ = τ' then some (.rp (τ.avs (xs.getD i.toNat τ.dflt)), 0 ≤ i ∧ i < (xs.length : Int)) else none
      | .sl r => match H r with
        | some (.sl _ τ xs) => if τ = τ' then some (.oe r τ.size i 0, 0 ≤ i ∧ i < (xs.length : Int)) else none
        | _ => none
      | _ => none)
    | .slr _ => (match x with
      | .rows xss => some (.rp [.rs .i64 (xss.getD i.toNat [])], 0 ≤ i ∧ i < (xss.length : Int))
      | .sl r => match H r with
        | some (.rows _ xss) => some (.oe r 1 i 0, 0 ≤ i ∧ i < (xss.length : Int))
        | _ => none
      | _ => none)
    | _ => none
  | _ => none

def sliceAV (x : AV) (lo hi : Option AV) : Option (AV × Prop) :=
  match lo with
  | some (.int l) => match hi with
    | some (.int h) => (match x with
      | .rs τ xs => some (.rs τ ((xs.take h.toNat).drop l.toNat), 0 ≤ l ∧ l ≤ h ∧ h ≤ (xs.length : Int))
      | .rows xss => some (.rows ((xss.take h.toNat).drop l.toNat), 0 ≤ l ∧ l ≤ h ∧ h ≤ (xss.length : Int))
      | _ => none)
    | none => (match x with
      | .rs τ xs => some (.rs τ (xs.drop l.toNat), 0 ≤ l ∧ l ≤ (xs.length : Int))
      | .rows xss => some (.rows (xss.drop l.toNat), 0 ≤ l ∧ l ≤ (xss.length : Int))
      | _ => none)
    | _ => none
  | none => match hi with
    | some (.int h) => (match x with
      | .rs τ xs => some (.rs τ (xs.take h.toNat), 0 ≤ h ∧ h ≤ (xs.length : Int))
      | .rows xss => some (.rows (xss.take h.toNat), 0 ≤ h ∧ h ≤ (xss.length : Int))
      | _ => none)
    | _ => none
  | _ => none

def lenAV (H : Nat → Option Own) (x : AV) : Option Int :=
  match x with
  | .rs _ xs => some xs.length
  | .rows xss => some xss.length
  | .nils => some 0
  | .sl r => match H r with
    | some (.sl _ _ xs) => some xs.length
    | some (.rows _ xss) => some xss.length
    | some (.mat _ _ xss) => some xss.length
    | _ => none
  | _ => none

def srcFlat (H : Nat → Option Own) (τ : FT) (x : AV) : Option (List τ.T) :=
  match x with
  | .rs τ' xs => if h : τ' = τ then some (h ▸ xs) else none
  | .nils => some []
  | .sl r => match H r with
    | some (.sl _ τ' xs) => if h : τ' = τ then some (h ▸ xs) else none
    | _ => none
  | _ => none
def srcRows (H : Nat → Option Own) (x : AV) : Option (List (List Int)) :=
  match x with
  | .rows xss => some xss
  | .nils => some []
  | .sl r => match H r with
    | some (.rows _ xss) => some xss
    | _ => none
  | _ => none

def room : Nat := 1099511627776

def appAV (H : Nat → Option Own) (nx : Nat) (d : TD) (x y : AV) : Option Eff :=
  match d.kd with
  | .sl e τ => (match srcFlat H τ y with
    | none => none
    | some ys => match x with
      | .nils => some ⟨.sl nx, [(nx, some (.sl e τ ys))], 1, ys.length ≤ room⟩
      | .sl r => (match H r with
        | some (.sl e' τ' xs) => if h : τ' = τ ∧ e' = e then (match y with
            | .sl r' => if r' = r then none else some ⟨.sl nx, [(nx, some (.sl e τ ((h.1 ▸ xs : List τ.T) ++ ys))), (r, none)], 1, xs.length + ys.length ≤ room⟩
            | _ => some ⟨.sl nx, [(nx, some (.sl e τ ((h.1 ▸ xs : List τ.T) ++ ys))), (r, none)], 1, xs.length + ys.length ≤ room⟩) else none
        | _ => none)
      | _ => none)
  | .slr e => (match srcRows H y with
    | none => none
    | some ys => match x with
      | .sl r => (match H r with
        | some (.rows e' xs) => if e' = e then (match y with
            | .sl _ => none
            | _ => some ⟨.sl nx, [(nx, some (.rows e (xs ++ ys))), (r, none)], 1, xs.length + ys.length ≤ room⟩) else none
        | _ => none)
      | _ => none)
  | _ => none

/-- Is it a box of a variable that is written later? -/
def ownBox (mb : List Nat) (d : Option Nat) : Bool := match d with | some k => mb.contains k | none => false
/-- What an operation does. 'mb': the slots whose boxed variable is written later. -/
def stepOp (mb : List Nat) (ev : Operand → Option AV) (H : Nat → Option Own) (nx : Nat) (o : Oper) : Option Eff :=
  match o.op with
  | .move x => (ev x).map fun y => ⟨y, [], 0, True⟩
  | .assign x => (ev x).map fun y => ⟨y, [], 0, True⟩
  | .binOp op t x y _ => (match ev x, ev y with
    | some a, some b => (match a with
      | .bool _ => (match (T t).map TD.kd with
        | some .bool => (binAV op a b).map fun q => ⟨q.1, [], 0, q.2⟩
        | _ => none)
      | _ => (binAV op a b).map fun q => ⟨q.1, [], 0, q.2⟩)
    | _, _ => none)
  | .unOp op _ x => (match op, ev x with
    | .not, some (.bool b) => some ⟨.bool (!b), [], 0, True⟩
    | .neg, some (.int n) => some ⟨.int (-n), [], 0, inR (-n)⟩
    | _, _ => none)
  | .convert s t x => (match T s, (T t).map TD.kd, ev x with
    | some _, some (.int .i64), some (.u8 n) => some ⟨.int n, [], 0, inR n⟩
    | some _, some (.int .i64), some (.int n) => some ⟨.int n, [], 0, inR n⟩
    | _, _, _ => none)
  | .nilCheck x => (match ev x with
    | some (.rp cs) => some ⟨.rp cs, [], 0, True⟩
    | some (.op r k) => some ⟨.op r k, [], 0, ∃ o, H r = some o⟩
    | some (.clo f cs) => some ⟨.clo f cs, [], 0, True⟩
    | _ => none)
  | .extract x i => (match ev x with
    | some (.tup fs) => (fs[i]?).map fun y => ⟨y, [], 0, True⟩
    | _ => none)
  | .field t x k => (match T t, ev x with
    | some d, some (.agg fs) => if isStr d ∧ fs.length = d.size then (fs[k]?).map fun y => ⟨y, [], 0, True⟩ else none
    | _, _ => none)
  | .fieldAddr t x k => (match T t, ev x with
    | some d, some (.rp cs) => if isStr d ∧ cs.length = d.size then (cs[k]?).map fun y => ⟨.rp [y], [], 0, True⟩ else none
    | some d, some (.op r 0) => if isStr d ∧ k < d.size then some ⟨.op r k, [], 0, ∃ o, H r = some o⟩ else none
    | some d, some (.oe r z i 0) => if isStr d ∧ k < d.size then some ⟨.oe r z i k, [], 0, ∃ o, H r = some o⟩ else none
    | _, _ => none)
  | .box t x => (match T t, ev x with
    | some d, some y => if (cellsAV y).length = d.size ∧ 0 < d.size ∧ (cellsAV y).all cell1 = true then
        (if ownBox mb o.dst then
          (if cleanL (cellsAV y) then some ⟨.op nx 0, [(nx, some (.var (cellsAV y)))], 1, True⟩ else none)
        else some ⟨.rp (cellsAV y), [], 0, True⟩) else none
    | _, _ => none)
  | .alloc t => (match T t with
    | some d => if (d.zeroV.cells.toList.all oneV) ∧ 0 < d.size then some ⟨.op nx 0, [(nx, some (.var (d.zeroV.cells.toList.map ofVal)))], 1, True⟩ else none
    | none => none)
  | .load t x => (match T t, ev x with
    | some d, some y => (loadAV H d y).map fun q => ⟨q.1, [], 0, q.2⟩
    | _, _ => none)
  | .store t x y => (match T t, ev x, ev y with
    | some d, some a, some b => (storeAV H d a b).map fun u => ⟨.junk, u, 0, True⟩
    | _, _, _ => none)
  | .indexAddr t x y => (match T t, ev x, ev y with
    | some d, some a, some b => (idxAV H d a b).map fun q => ⟨q.1, [], 0, q.2⟩
    | _, _, _ => none)
  | .slice t x lo hi mx => if (lo.all fun z => (ev z).isSome) && (hi.all fun z => (ev z).isSome) then
    (match mx, (T t).map TD.kd, ev x with
    | none, some (.sl _ τ'), some (.rs τ xs) => if τ = τ' then (sliceAV (.rs τ xs) (lo.bind ev) (hi.bind ev)).map fun q => ⟨q.1, [], 0, q.2⟩ else none
    | none, some (.slr _), some (.rows xss) => (sliceAV (.rows xss) (lo.bind ev) (hi.bind ev)).map fun q => ⟨q.1, [], 0, q.2⟩
    | _, _, _ => none) else none
  | .build t ps => (match T t, evL ev (ps.toList.map (·.2)) with
    | some d, some ys => if isStr d ∧ d.zeroV.cells.toList.all oneV = true then (setAll (d.zeroV.cells.toList.map ofVal) ((ps.toList.map (·.1)).zip ys)).map fun fs => ⟨.agg fs, [], 0, True⟩ else none
    | _, _ => none)
  | .buildSlice t n ps => (match (T t).map TD.kd, evL ev (ps.toList.map (·.2)) with
    | some (.sl e τ), some ys => if ps.toList.map (·.1) = List.range n ∧ n ≤ 1000 then (elems τ ys).map fun xs => ⟨.sl nx, [(nx, some (.sl e τ xs))], 1, True⟩ else none
    | some (.slr e), some ys => if ps.toList.map (·.1) = List.range n ∧ n ≤ 1000 then (rowsAV ys).map fun xss => ⟨.sl nx, [(nx, some (.rows e xss))], 1, True⟩ else none
    | _, _ => none)
  | .makeSlice t l c => (match (T t).map TD.kd, ev l, ev c with
    | some (.sl e τ), some (.int n), some (.int m) => some ⟨.sl nx, [(nx, some (.sl e τ (List.replicate n.toNat τ.dflt)))], 1, n = m ∧ 0 ≤ n ∧ n ≤ 1099511627776⟩
    | some (.slr e), some (.int n), some (.int m) => some ⟨.sl nx, [(nx, some (.rows e (List.replicate n.toNat [])))], 1, n = m ∧ 0 ≤ n ∧ n ≤ 1099511627776⟩
    | _, _, _ => none)
  | .makeFunc fn first caps => (match fn, first.toList, evL ev caps.toList with
    | .func f, [], some ys => some ⟨.clo f ys, [], 0, True⟩
    | _, _, _ => none)
  | .call c => (match c.callee with
    | .builtin .len => (match c.args.toList, c.argTypes.toList with
      | [x], [t] => (match (T t).map TD.kd, (ev x).bind (lenAV H) with
        | some (.sl _ _), some n => some ⟨.int n, [], 0, True⟩
        | some (.slr _), some n => some ⟨.int n, [], 0, True⟩
        | _, _ => none)
      | _, _ => none)
    | .builtin .append => (match c.args.toList, c.argTypes.toList with
      | [x, y], [t, t'] => if t = t' then (match T t, ev x, ev y with
        | some d, some a, some b => appAV H nx d a b
        | _, _, _ => none) else none
      | _, _ => none)
    | .builtin .max => (match evL ev c.args.toList with
      | some ys => (maxAV ys).map fun n => ⟨.int n, [], 0, True⟩
      | none => none)
    | .builtin .min => (match evL ev c.args.toList with
      | some ys => (minAV ys).map fun n => ⟨.int n, [], 0, True⟩
      | none => none)
    | .value f => (match ev f, evL ev c.args.toList with
      | some (.clo g caps), some ys => (match Γ g with
        | some C => (match conv C.al H C.modes (ys ++ caps) with
          | some (as, os, sn) => (match C.run as (os.map (·.2)) with
            | some R => if callOK C os sn R then
                some ⟨renV (fun i => nx + i) R.res, (os.map (·.1)).zip (R.muts.map some) ++ ((List.range R.new.length).map (nx + ·)).zip (R.new.map some), R.new.length, R.pre⟩ else none
            | none => none)
          | none => none)
        | none => none)
      | _, _ => none)
    | _ => none)
  | _ => none
end
end Go.Proofs.Ytpiaeckkjdcifaa
