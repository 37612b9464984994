/- The iterator over all orders. No condition. -/
import Derived.RangeFuncNested
import Derived.RangeFuncBound
import Derived.RangeFuncCalls
import Derived.RangeFuncLeaves
import Derived.Shelf.Abstract
import Derived.Shelf.RegionOpen
import Derived.WalkKit
import Derived.OwnWalkIn
import Derived.TacticsInMore
import Derived.LoopNIn
import Derived.LoopIn
import Derived.Test.YtpiaeckkjdcifaaCoreI
import Derived.Test.YtpiaeckkjdcifaaLists
import Derived.Maps.AppendAt
import Derived.Laws.EntriesVeiled
import Derived.Test.YtpiaeckkjdcifaaWorst
import Derived.Test.YtpiaeckkjdcifaaFull
import Derived.Test.YtpiaeckkjdcifaaPut
namespace Go.Proofs.Ytpiaeckkjdcifaa
set_option linter.unusedVariables false
set_option linter.unusedSimpArgs false
open Go
open Go.RowKit Go.Shelf
attribute [local go_sem] Oper.semAt_some


/-- All orders that begin with o, by the number of those still to come. -/
def permF (ls : List Int) : Nat → List Int → List (List Int)
  | 0, o => [o]
  | m + 1, o => ls.flatMap fun x => if x ∈ o then [] else permF ls m (o ++ [x])

def roomRow (cur : Array Value) (k : Nat) (u : Value) : Array Value := (cur.toList.take k ++ [u] ++ cur.toList.drop (k + 1)).toArray
/-- An append in place, the world written out. -/
theorem wpListIn_append_room {F : Fence} {n : Nat} {P : Program} (w : World) {ops : Array Oper} {rest : List Oper} {o : Oper} {a : Act} {Q : Exit → Act → World → Prop}
    (hg : o.guard = none) (s x : Operand) (t : TypeId) (hop : o.op = Op.call { callee := Callee.builtin Builtin.append, args := #[s, x], argTypes := #[t, t] })
    (e : TypeId) (i : TypeInfo) (h1 : P.underlying t = some (.slice e)) (h2 : P.info? e = some i) (h4 : i.size = 1)
    (g k cap : Nat) (cur : Array Value) (hs : a.eval s = .slice (some ⟨g, 0, none⟩) k cap) (hcur : w.heap[g]? = some (.cells cur e (0, 0))) (ad : Addr) (c : Nat) (u : Value) (hx : a.eval x = .slice (some ad) 1 c)
    (hc : w.cell? ad = some u) (h1c : u.oneCell' = true) (b1 : k + 1 ≤ cap) (b2 : k + 1 ≤ cur.size)
    (hK : wpListIn F n P ops Q rest (a.put o.dst (.slice (some ⟨g, 0, none⟩) (k + 1) cap)) (w.setRow g (roomRow cur k u))) :
    wpListIn F n P ops Q (o :: rest) a w := by
  refine wpListIn_plain hg fun K hK' => ?_
  have hrun := run_append_room (P := P) w t o.type e i h1 h2 g k cap cur hcur ad 1 c [u] (by rw [h4]; rfl) (by
    intro j v hj
    cases j with
    | zero => simp only [List.getElem?_cons_zero, Option.some.injEq] at hj; subst hj; simpa [Addr.add] using hc
    | succ j => simp at hj) (by simpa using h1c) b1 (by rw [h4]; simpa using b2)
  rw [h4, Nat.mul_one] at hrun
  unfold Oper.wpIn
  refine ⟨?_, ?_⟩
  · simp [Oper.about, hop, resolve, Target.leads, Sem.run_pure]
  · rw [Oper.semAt_plain F _ _ (by rw [hop]; intro c hc'; cases hc')]
    simp [execOp, hop, resolve, invoke, builtin, hs, hx, hrun, Result.andThen]
    exact hK' _ _ (by simpa [roomRow] using hK)

section
variable (ob gb lb yb eb l B4 ab ao capl : Nat) (Al : Option Addr) (ls : List Int)
/-- What the iterator's memory holds while it has chosen o. -/
structure OInv (o : List Int) (W : World) : Prop where
  co : W.cell? ⟨ob, 0, none⟩ = some (.slice (some ⟨gb, 0, none⟩) o.length ls.length)
  fo : W.frozen? ⟨ob, 0, none⟩ = false
  row : ∃ cur : Array Value, W.heap[gb]? = some (.cells cur 3 (0, 0)) ∧ cur.size = ls.length ∧ cur.toList.take o.length = o.map (Value.int .i64)
  cl : W.cell? ⟨lb, 0, none⟩ = some (.slice Al ls.length capl)
  el : ∀ i x, ls[i]? = some x → W.cell? ⟨ab, ao + i, none⟩ = some (.int .i64 x)
  cy : W.cell? ⟨yb, 0, none⟩ = some (.func (.yield l) #[] #[])
  ce : W.cell? ⟨eb, 0, none⟩ = some (.func (.func 130) #[] #[.pointer (some ⟨ob, 0, none⟩), .pointer (some ⟨lb, 0, none⟩), .pointer (some ⟨yb, 0, none⟩), .pointer (some ⟨eb, 0, none⟩)])
  sz : B4 ≤ W.heap.size

structure Apart (ob gb lb yb eb ab : Nat) : Prop where
  og : ob ≠ gb
  l1 : lb ≠ ob
  l2 : lb ≠ gb
  y1 : yb ≠ ob
  y2 : yb ≠ gb
  e1 : eb ≠ ob
  e2 : eb ≠ gb
  a1 : ab ≠ ob
  a2 : ab ≠ gb
end

section
variable {ob gb lb yb eb l B4 ab ao capl : Nat} {Al : Option Addr} {ls : List Int}
theorem cell_moved {W W' : World} {X : Nat → Prop} (h : Moved W W' X) {a : Addr} {v : Value} (hc : W.cell? a = some v) (hx : ¬ X a.block) : W'.cell? a = some v := by
  rw [World.cell?_of_block (h.block a.block (World.block_lt_of_cell? W a hc) hx)]; exact hc
theorem OInv.moved {o : List Int} {W W' : World} {X : Nat → Prop} (I : OInv ob gb lb yb eb l B4 ab ao capl Al ls o W) (h : Moved W W' X) (h1 : ¬ X ob) (h2 : ¬ X gb) (h3 : ¬ X lb) (h4 : ¬ X ab) (h5 : ¬ X yb) (h6 : ¬ X eb) : OInv ob gb lb yb eb l B4 ab ao capl Al ls o W' := by
  obtain ⟨cur, hg, hc⟩ := I.row
  refine ⟨cell_moved h I.co h1, ?_, ⟨cur, ?_, hc⟩, cell_moved h I.cl h3, fun i x hi => cell_moved h (I.el i x hi) h4, cell_moved h I.cy h5, cell_moved h I.ce h6, Nat.le_trans I.sz h.size⟩
  · rw [World.frozen?_of_block (h.block ob (World.block_lt_of_cell? W _ I.co) h1)]; exact I.fo
  · rw [h.block gb (Array.getElem?_eq_some_iff.1 hg).1 h2]; exact hg
theorem Moved.refl (W : World) (X : Nat → Prop) : Moved W W X := ⟨fun _ _ _ => rfl, Nat.le_refl _, rfl, rfl, rfl, Nat.le_refl _⟩
theorem Moved.trans {A B C : World} {X : Nat → Prop} (h : Moved A B X) (k : Moved B C X) : Moved A C X :=
  ⟨fun i hi hx => (k.block i (Nat.lt_of_lt_of_le hi h.size) hx).trans (h.block i hi hx), Nat.le_trans h.size k.size, k.os.trans h.os, k.tape.trans h.tape, k.output.trans h.output, Nat.le_trans h.drawn k.drawn⟩
theorem Moved.weak {A B : World} {X Y : Nat → Prop} (h : Moved A B X) (hx : ∀ k, X k → Y k) : Moved A B Y := ⟨fun i hi hy => h.block i hi (fun q => hy (hx i q)), h.size, h.os, h.tape, h.output, h.drawn⟩
theorem Moved.alloc (W : World) (o : Obj) (X : Nat → Prop) : Moved W (W.alloc o) X := ⟨fun k hk _ => Below.heap_alloc W o k hk, by simp, rfl, rfl, rfl, Nat.le_refl _⟩
theorem Moved.setCell (W : World) (a : Addr) (v : Value) {X : Nat → Prop} (h : X a.block) : Moved W (W.setCell a v) X :=
  ⟨fun k _ hx => Below.heap_setCell W a v k (fun e => hx (e ▸ h)), by show W.heap.size ≤ (W.heap.modify _ _).size; rw [Array.size_modify]; exact Nat.le_refl _, rfl, rfl, rfl, Nat.le_refl _⟩
theorem Moved.setRow (W : World) (g : Nat) (cs : Array Value) {X : Nat → Prop} (h : X g) : Moved W (W.setRow g cs) X :=
  ⟨fun k _ hx => setRow_other W g k cs (fun e => hx (e ▸ h)), by simp, rfl, rfl, rfl, Nat.le_refl _⟩

/-- One more is chosen. -/
theorem OInv.push {o : List Int} {x : Int} {W : World} {cur : Array Value} (I : OInv ob gb lb yb eb l B4 ab ao capl Al ls o W) (hA : Apart ob gb lb yb eb ab) (hg : W.heap[gb]? = some (.cells cur 3 (0, 0))) (hcs : cur.size = ls.length) (htk : cur.toList.take o.length = o.map (Value.int .i64)) (hlt : o.length < ls.length) :
    OInv ob gb lb yb eb l B4 ab ao capl Al ls (o ++ [x]) (((W.alloc (.cells #[Value.int .i64 x] 3)).setRow gb (roomRow cur o.length (Value.int .i64 x))).setCell ⟨ob, 0, none⟩ (.slice (some ⟨gb, 0, none⟩) (o.length + 1) ls.length)) ∧
    Moved W (((W.alloc (.cells #[Value.int .i64 x] 3)).setRow gb (roomRow cur o.length (Value.int .i64 x))).setCell ⟨ob, 0, none⟩ (.slice (some ⟨gb, 0, none⟩) (o.length + 1) ls.length)) (fun k => k = ob ∨ k = gb) := by
  have hcl : cur.toList.length = ls.length := by rw [← hcs]; exact Array.length_toList
  have hM1 : Moved W ((W.alloc (.cells #[Value.int .i64 x] 3)).setRow gb (roomRow cur o.length (Value.int .i64 x))) (fun k => k = gb) :=
    (Moved.alloc W _ _).trans (Moved.setRow _ gb _ rfl)
  have hM := (hM1.weak (Y := fun k => k = ob ∨ k = gb) (fun k h => .inr h)).trans (Moved.setCell _ ⟨ob, 0, none⟩ (.slice (some ⟨gb, 0, none⟩) (o.length + 1) ls.length) (.inl rfl))
  have hg1 : (W.alloc (.cells #[Value.int .i64 x] 3)).heap[gb]? = some (.cells cur 3 (0, 0)) := (Below.heap_alloc W _ gb (Array.getElem?_eq_some_iff.1 hg).1).trans hg
  have hn1 : ∀ {k : Nat}, k ≠ ob → k ≠ gb → ¬ (k = ob ∨ k = gb) := fun h1 h2 h => h.elim h1 h2
  have hco1 := cell_moved hM1 I.co hA.og
  refine ⟨⟨?_, ?_, ⟨(roomRow cur o.length (Value.int .i64 x)), ?_, ?_, ?_⟩, cell_moved hM I.cl (hn1 hA.l1 hA.l2), fun i y hi => cell_moved hM (I.el i y hi) (hn1 hA.a1 hA.a2), cell_moved hM I.cy (hn1 hA.y1 hA.y2), cell_moved hM I.ce (hn1 hA.e1 hA.e2), Nat.le_trans I.sz hM.size⟩, hM⟩
  · rw [List.length_append, List.length_singleton]
    exact World.cell?_setCell_same' _ _ _ (by rw [hco1]; rfl)
  · rw [World.frozen?_setCell]
    rw [World.frozen?_of_block (hM1.block ob (World.block_lt_of_cell? W _ I.co) hA.og)]; exact I.fo
  · rw [Below.heap_setCell _ _ _ gb (Ne.symm hA.og)]
    exact setRow_heap _ gb cur _ _ _ hg1
  · rw [roomRow, List.size_toArray, List.length_append, List.length_append, List.length_take, List.length_drop, hcl, List.length_singleton]; omega
  · rw [roomRow, List.toList_toArray, List.length_append, List.length_singleton, List.take_left' (by rw [List.length_append, List.length_take, hcl, List.length_singleton]; omega), htk, List.map_append]; rfl

/-- The last one chosen is given up. -/
theorem OInv.pop {o : List Int} {x : Int} {W : World} (I : OInv ob gb lb yb eb l B4 ab ao capl Al ls (o ++ [x]) W) (hA : Apart ob gb lb yb eb ab) :
    OInv ob gb lb yb eb l B4 ab ao capl Al ls o (W.setCell ⟨ob, 0, none⟩ (.slice (some ⟨gb, 0, none⟩) o.length ls.length)) ∧ Moved W (W.setCell ⟨ob, 0, none⟩ (.slice (some ⟨gb, 0, none⟩) o.length ls.length)) (fun k => k = ob ∨ k = gb) := by
  have hM := Moved.setCell W ⟨ob, 0, none⟩ (.slice (some ⟨gb, 0, none⟩) o.length ls.length) (X := fun k => k = ob) rfl
  obtain ⟨cur, hg, hcs, htk⟩ := I.row
  refine ⟨⟨World.cell?_setCell_same' _ _ _ (by rw [I.co]; rfl), by rw [World.frozen?_setCell]; exact I.fo, ⟨cur, by rw [Below.heap_setCell _ _ _ gb (Ne.symm hA.og)]; exact hg, hcs, ?_⟩, cell_moved hM I.cl hA.l1, fun i y hi => cell_moved hM (I.el i y hi) hA.a1, cell_moved hM I.cy hA.y1, cell_moved hM I.ce hA.e1, Nat.le_trans I.sz hM.size⟩, hM.weak (fun k h => .inl h)⟩
  have := congrArg (List.take o.length) htk
  rw [List.take_take, List.map_append, List.length_append, List.length_singleton, Nat.min_eq_left (by omega), List.take_left' (by rw [List.length_map])] at this
  exact this
end
end Go.Proofs.Ytpiaeckkjdcifaa
namespace Go.Proofs.Ytpiaeckkjdcifaa
set_option linter.unusedVariables false
set_option linter.unusedSimpArgs false
open Go
open Go.RowKit Go.Shelf
attribute [local go_sem] Oper.semAt_some

section
variable {ob gb lb yb eb l B4 ab ao capl : Nat} {Al : Option Addr} {ls : List Int}
theorem OInv.has {o : List Int} {W : World} (I : OInv ob gb lb yb eb l B4 ab ao capl Al ls o W) (hmax : ls.length ≤ 1000) (hle : o.length ≤ ls.length) (x : Int) :
    CallsIn Fence.wide 0 Try.prog 90 #[.slice (some ⟨gb, 0, none⟩) o.length ls.length, .int .i64 x] W fun e W' => e = .returned (.bool (decide (x ∈ o))) ∧ Moved W W' (fun _ => False) := by
  obtain ⟨cur, hg, hcs, htk⟩ := I.row
  refine callsIn_wide.2 ?_
  have hro : ROflat W (fun b => inB [] b ∨ False) .i64 o (.slice (some ⟨gb, 0, none⟩) o.length ls.length) := by
    refine .inr ⟨gb, 0, ls.length, rfl, hle, by simp only [maxLen]; omega, by rintro (⟨s, hs, _⟩ | h); (simp at hs); exact h, fun i u hu => ?_⟩
    have hu' : (o.map (Value.int .i64))[i]? = some u := by rw [List.map_eq_flatMap]; exact hu
    rw [← htk, List.getElem?_take] at hu'
    split at hu'
    · rw [cell_of_row W gb _ cur _ (0, 0) hg, Nat.zero_add]; simpa using hu'
    · cases hu'
  have h := m_slices_Contains_int_int.2.1 W [.slice (some ⟨gb, 0, none⟩) o.length ls.length, .int .i64 x] [.rs .i64 o, .int x] [] [] (fun _ => False) (o.length ≤ 9223372036854775807) (fun R' => R' = ⟨o.length ≤ 9223372036854775807, .bool (decide (x ∈ o)), [], []⟩)
    rfl (by omega) rfl rfl (fun b h => h.elim) (fun _ b h => h) ⟨hro, rfl, trivial⟩ trivial (fun b h => by obtain ⟨s, hs, _⟩ := h; simp at hs) (fun i j s t h => by simp at h)
  refine Calls.mono h ?_
  rintro e w' ⟨R, rfl, v, ns, rfl, hmv, _, _, _, _, hres⟩
  have hres : v = .bool (decide (x ∈ o)) := hres
  exact ⟨by rw [hres], hmv.weak (fun k h => by obtain ⟨s, hs, _⟩ := h; simp at hs)⟩

theorem cell_new1 (w : World) (x : Value) (t : TypeId) : (w.alloc (.cells #[x] t)).cell? ⟨w.heap.size, 0, none⟩ = some x := cell_one_new w x t 0 x rfl
set_option maxRecDepth 100000 in
set_option maxHeartbeats 4000000 in
theorem ext_in (hA : Apart ob gb lb yb eb ab) (hAl : ls ≠ [] → Al = some ⟨ab, ao, none⟩) (hmax : ls.length ≤ 1000) (J : List (List Int) → World → Prop)
    (hJ : ∀ pre W W', J pre W → Moved W W' (fun k => k = ob ∨ k = gb) → J pre W')
    (hY : ∀ pre o W, J pre W → OInv ob gb lb yb eb l B4 ab ao capl Al ls o W → o.length = ls.length → YieldAt Fence.wide 0 Try.prog l #[.slice (some ⟨gb, 0, none⟩) ls.length ls.length] W fun e W' => e = .returned (.bool true) ∧ J (pre ++ [o]) W' ∧ OInv ob gb lb yb eb l B4 ab ao capl Al ls o W') :
    ∀ (m : Nat) (o : List Int) (pre : List (List Int)) (W : World), o.length + m = ls.length → OInv ob gb lb yb eb l B4 ab ao capl Al ls o W → J pre W →
      CallsIn Fence.wide 0 Try.prog 130 #[.pointer (some ⟨ob, 0, none⟩), .pointer (some ⟨lb, 0, none⟩), .pointer (some ⟨yb, 0, none⟩), .pointer (some ⟨eb, 0, none⟩)] W fun e W' => e = .returned (.bool true) ∧ OInv ob gb lb yb eb l B4 ab ao capl Al ls o W' ∧ J (pre ++ permF ls m o) W' := by
  intro m
  induction m with
  | zero =>
    intro o pre W hl I hj
    have hY' := hY pre o W hj I (by omega)
    have hl' : o.length = ls.length := by omega
    have co := I.co
    have cl := I.cl
    have cy := I.cy
    rw [hl'] at co
    obtain ⟨fn, tmps, assign, body, hy, hR⟩ := hY'
    clear hY hJ hAl hA I hj hl hl'
    refine callsIn_of_wp Try.func130 rfl trivial ?_ rfl
    simp only [Try.ntmps130, List.size_toArray, List.length_cons, List.length_nil, Nat.reduceAdd, Nat.reduceSub, Array.replicate_succ, Array.replicate_zero, List.push_toArray, List.append_toArray, List.nil_append, List.cons_append]
    gi_wp2_with (refine ⟨rfl, ?_⟩; refine hR.mono ?_; rintro e W' ⟨rfl, hj', hI'⟩)
    go_ret
    exact ⟨rfl, hI', hj'⟩
  | succ m ih =>
    intro o pre W hl I hj
    obtain rfl : Al = some ⟨ab, ao, none⟩ := hAl (fun h => by rw [h] at hl; simp at hl)
    have co := I.co
    have cl := I.cl
    have hne : ¬ (o.length : Int) = ls.length := by omega
    refine callsIn_of_wp Try.func130 rfl trivial ?_ rfl
    simp only [Try.ntmps130, List.size_toArray, List.length_cons, List.length_nil, Nat.reduceAdd, Nat.reduceSub, Array.replicate_succ, Array.replicate_zero, List.push_toArray, List.append_toArray, List.nil_append, List.cons_append]
    gi_wp2
    gi_loopw [18] (fun v18 wr => ∃ i : Nat, v18 = .int .i64 i ∧ i ≤ ls.length ∧ OInv ob gb lb yb eb l B4 ab ao capl (some ⟨ab, ao, none⟩) ls o wr ∧ J (pre ++ (ls.take i).flatMap fun x => if x ∈ o then [] else permF ls m (o ++ [x])) wr) (fun v18 _ => ls.length - (intOf v18).toNat)
    case atStart => exact ⟨0, rfl, Nat.zero_le _, I, by simpa using hj⟩
    case round =>
      obtain ⟨i, rfl, hi, I2, hj2⟩ := hrel
      have hbr := hj2
      clear hj I co hne hAl
      by_cases hlt : i < ls.length
      · obtain ⟨x, hx⟩ : ∃ x, ls[i]? = some x := ⟨_, List.getElem?_eq_getElem hlt⟩
        have hel := I2.el i x hx
        have hlt' : (i : Int) < (ls.length : Int) := by omega
        have hi0 : (0 : Int) ≤ (i : Int) := by omega
        have co2 := I2.co
        have cl2 := I2.cl
        by_cases hmem : x ∈ o
        · have hcon := (I2.has hmax (by omega) x).mono (R' := fun e W1 => e = .returned (.bool true) ∧ OInv ob gb lb yb eb l B4 ab ao capl (some ⟨ab, ao, none⟩) ls o W1 ∧ J (pre ++ (ls.take i).flatMap fun x => if x ∈ o then [] else permF ls m (o ++ [x])) W1) (fun e W1 h => ⟨by rw [h.1, decide_eq_true hmem], I2.moved h.2 id id id id id id, hJ _ _ _ hj2 (h.2.weak fun _ h => h.elim)⟩)
          clear ih hJ hY hbr hj2
          gi_wp2_with (refine ⟨trivial, rfl, ?_⟩; refine hcon.mono ?_; clear hcon; rintro e W1 ⟨rfl, I3, hj3⟩)
          go_roundw
          case rel =>
            refine ⟨i + 1, by simp, by omega, I3, ?_⟩
            rw [List.take_add_one, hx, List.flatMap_append]
            simpa [hmem] using hj3
          case measure => simp [intOf]; omega
        · have hcon := (I2.has hmax (by omega) x).mono (R' := fun e W1 => e = .returned (.bool false) ∧ W1.cell? ⟨ob, 0, none⟩ = some (.slice (some ⟨gb, 0, none⟩) o.length ls.length) ∧
              ∃ cur : Array Value, W1.heap[gb]? = some (.cells cur 3 (0, 0)) ∧ cur.size = ls.length ∧ (W1.alloc (.cells #[Value.int .i64 x] 3)).heap[gb]? = some (.cells cur 3 (0, 0)) ∧
                ((W1.alloc (.cells #[Value.int .i64 x] 3)).setRow gb (roomRow cur o.length (Value.int .i64 x))).cell? ⟨ob, 0, none⟩ = some (.slice (some ⟨gb, 0, none⟩) o.length ls.length) ∧
                ((W1.alloc (.cells #[Value.int .i64 x] 3)).setRow gb (roomRow cur o.length (Value.int .i64 x))).frozen? ⟨ob, 0, none⟩ = false ∧
                (((W1.alloc (.cells #[Value.int .i64 x] 3)).setRow gb (roomRow cur o.length (Value.int .i64 x))).setCell ⟨ob, 0, none⟩ (.slice (some ⟨gb, 0, none⟩) (o.length + 1) ls.length)).cell? ⟨eb, 0, none⟩ = some (.func (.func 130) #[] #[.pointer (some ⟨ob, 0, none⟩), .pointer (some ⟨lb, 0, none⟩), .pointer (some ⟨yb, 0, none⟩), .pointer (some ⟨eb, 0, none⟩)]) ∧
                CallsIn Fence.wide 0 Try.prog 130 #[.pointer (some ⟨ob, 0, none⟩), .pointer (some ⟨lb, 0, none⟩), .pointer (some ⟨yb, 0, none⟩), .pointer (some ⟨eb, 0, none⟩)] (((W1.alloc (.cells #[Value.int .i64 x] 3)).setRow gb (roomRow cur o.length (Value.int .i64 x))).setCell ⟨ob, 0, none⟩ (.slice (some ⟨gb, 0, none⟩) (o.length + 1) ls.length)) fun e W5 => e = .returned (.bool true) ∧ W5.cell? ⟨ob, 0, none⟩ = some (.slice (some ⟨gb, 0, none⟩) (o.length + 1) ls.length) ∧ W5.frozen? ⟨ob, 0, none⟩ = false ∧
                  OInv ob gb lb yb eb l B4 ab ao capl (some ⟨ab, ao, none⟩) ls o (W5.setCell ⟨ob, 0, none⟩ (.slice (some ⟨gb, 0, none⟩) o.length ls.length)) ∧ J (pre ++ (ls.take (i + 1)).flatMap fun x => if x ∈ o then [] else permF ls m (o ++ [x])) (W5.setCell ⟨ob, 0, none⟩ (.slice (some ⟨gb, 0, none⟩) o.length ls.length)))
            (fun e W1 h => by
              have I3 := I2.moved h.2 id id id id id id
              have hj3 := hJ _ _ _ hj2 (h.2.weak fun _ h => h.elim)
              obtain ⟨cur, hg, hcs, htk⟩ := I3.row
              obtain ⟨I4, hM4⟩ := I3.push (x := x) hA hg hcs htk (by omega)
              have hj4 := hJ _ _ _ hj3 hM4
              have hM1 : Moved W1 ((W1.alloc (.cells #[Value.int .i64 x] 3)).setRow gb (roomRow cur o.length (Value.int .i64 x))) (fun k => k = gb) := (Moved.alloc W1 _ _).trans (Moved.setRow _ gb _ rfl)
              refine ⟨by rw [h.1, decide_eq_false hmem], I3.co, cur, hg, hcs, (Below.heap_alloc W1 _ gb (Array.getElem?_eq_some_iff.1 hg).1).trans hg, cell_moved hM1 I3.co hA.og, ?_, I4.ce, ?_⟩
              · rw [World.frozen?_of_block (hM1.block ob (World.block_lt_of_cell? W1 _ I3.co) hA.og)]; exact I3.fo
              · refine (ih (o ++ [x]) _ _ (by rw [List.length_append, List.length_singleton]; omega) I4 hj4).mono ?_
                rintro e W5 ⟨rfl, I5, hj5⟩
                obtain ⟨I6, hM6⟩ := I5.pop hA
                have hco := I5.co
                rw [List.length_append, List.length_singleton] at hco
                refine ⟨rfl, hco, I5.fo, I6, ?_⟩
                have := hJ _ _ _ hj5 hM6
                rw [List.take_add_one, hx, List.flatMap_append, ← List.append_assoc]
                simpa [hmem] using this)
          obtain ⟨i3, hi3, hz3⟩ : ∃ i3, Try.prog.info? 3 = some i3 ∧ i3.size = 1 := by
            have : (Try.prog.info? 3).map (fun i => i.size) = some 1 := by kernel_rfl
            rw [Option.map_eq_some_iff] at this
            obtain ⟨i3, h1, h2⟩ := this
            exact ⟨i3, h1, h2⟩
          clear ih hJ hY hbr hj2 hA
          gi_wp2_with (first
            | (refine ⟨trivial, rfl, ?_⟩; refine hcon.mono ?_; clear hcon; rintro e W1 ⟨rfl, co3, cur, hg3, hcs3, hg4, co4, fo4, ce4, hrec⟩)
            | (gi_at_builtin; refine wpListIn_append_room _ rfl _ _ 24 rfl 3 i3 (by kernel_rfl) hi3 hz3 gb o.length ls.length cur rfl hg4 ⟨W1.heap.size, 0, none⟩ 1 (.int .i64 x) rfl (cell_new1 _ _ _) rfl (by omega) (by omega) ?_)
            | (refine ⟨trivial, rfl, ?_⟩; refine hrec.mono ?_; clear hrec; rintro e W5 ⟨rfl, co5, fo5, I6, hj6⟩))
          exact ⟨⟨i + 1, by simp, by omega, I6, hj6⟩, by simp [intOf]; omega⟩
      · obtain rfl : i = ls.length := by omega
        rw [List.take_length] at hj2
        clear ih hJ hY hbr
        gi_wp2
        go_ret
        exact ⟨rfl, I2, hj2⟩
end
end Go.Proofs.Ytpiaeckkjdcifaa
namespace Go.Proofs.Ytpiaeckkjdcifaa
set_option linter.unusedVariables false
set_option linter.unusedSimpArgs false
open Go
open Go.RowKit Go.Shelf
attribute [local go_sem] Oper.semAt_some

def zrow (m : Nat) : Array Value := madeCells (Value.int .i64 0).cells (m * 1)
theorem zrow_size (m : Nat) : (zrow m).size = m := by rw [zrow, size_madeCells, Nat.mul_one]
theorem wpListIn_make_room {F : Fence} {n : Nat} {P : Program} (w : World) {ops : Array Oper} {rest : List Oper} {o : Oper} {a : Act} {Q : Exit → Act → World → Prop}
    (hg : o.guard = none) (l c : Operand) (t : TypeId) (hop : o.op = Op.makeSlice t l c)
    (e : TypeId) (i : TypeInfo) (h1 : P.underlying t = some (.slice e)) (h2 : P.info? e = some i) (h3 : i.zero = some (.int .i64 0)) (h4 : i.size = 1) (h5 : i.bytes = 8)
    (m : Nat) (hl : a.eval l = .int .i64 0) (hc : a.eval c = .int .i64 m) (b3 : m ≤ 1000)
    (hK : wpListIn F n P ops Q rest (a.put o.dst (.slice (some ⟨w.heap.size, 0, none⟩) 0 m)) (w.alloc (.cells (zrow m) e))) :
    wpListIn F n P ops Q (o :: rest) a w := by
  refine wpListIn_plain hg fun K hK' => ?_
  have hrun := run_make (P := P) w t e i (.int .i64 0) h1 h2 h3 .i64 .i64 0 (m : Int) (Int.le_refl _) (by omega) (by rw [h5]; omega) (by omega)
  rw [h4, Int.toNat_natCast] at hrun
  unfold Oper.wpIn
  refine ⟨?_, ?_⟩
  · simp [Oper.about, hop]
  · rw [Oper.semAt_plain F _ _ (by rw [hop]; intro c hc'; cases hc')]
    simp [execOp, hop, hl, hc, hrun, Result.andThen]
    exact hK' _ _ (by simpa [zrow] using hK)

set_option maxRecDepth 100000 in
set_option maxHeartbeats 4000000 in
theorem iter_in (l lb ab ao capl : Nat) (Al : Option Addr) (ls : List Int) (hAl : ls ≠ [] → Al = some ⟨ab, ao, none⟩) (hmax : ls.length ≤ 1000) (J : List (List Int) → World → Prop) (W : World) (M : Nat → Prop)
    (hlb : lb < W.heap.size) (hab : ab < W.heap.size) (hMk : ∀ k, M k → k < W.heap.size ∧ k ≠ lb ∧ k ≠ ab)
    (cl : W.cell? ⟨lb, 0, none⟩ = some (.slice Al ls.length capl)) (el : ∀ i x, ls[i]? = some x → W.cell? ⟨ab, ao + i, none⟩ = some (.int .i64 x))
    (hJ : ∀ pre A B, J pre A → Moved A B (fun k => W.heap.size ≤ k ∧ k < W.heap.size + 4) → J pre B) (h0 : J [] W)
    (hY : ∀ gb pre o A, W.heap.size ≤ gb → gb < W.heap.size + 4 → W.heap.size + 4 ≤ A.heap.size → J pre A → (∃ cur : Array Value, A.heap[gb]? = some (.cells cur 3 (0, 0)) ∧ cur.toList.take o.length = o.map (Value.int .i64)) → o.length = ls.length →
      YieldAt Fence.wide 0 Try.prog l #[.slice (some ⟨gb, 0, none⟩) ls.length ls.length] A fun e B => e = .returned (.bool true) ∧ J (pre ++ [o]) B ∧ Moved A B M) :
    CallsIn Fence.wide 0 Try.prog 129 #[.func (.yield l) #[] #[], .pointer (some ⟨lb, 0, none⟩)] W fun e B => (∃ v, e = .returned v) ∧ J (permF ls ls.length []) B := by
  obtain ⟨i3, hi3, hz0, hz1, hz2⟩ : ∃ i3, Try.prog.info? 3 = some i3 ∧ i3.zero = some (.int .i64 0) ∧ i3.size = 1 ∧ i3.bytes = 8 := infoOf_some (by kernel_rfl)
  obtain ⟨V1, hV1⟩ : ∃ V, V = (W.alloc (.cells #[.func (.yield l) #[] #[]] 31)) := ⟨_, rfl⟩
  obtain ⟨V2, hV2⟩ : ∃ V, V = V1.alloc (.cells (zrow ls.length) 3) := ⟨_, rfl⟩
  obtain ⟨V3, hV3⟩ : ∃ V, V = V2.alloc (.cells #[.slice (some ⟨W.heap.size + 1, 0, none⟩) 0 ls.length] 24) := ⟨_, rfl⟩
  obtain ⟨V4, hV4⟩ : ∃ V, V = V3.alloc (.cells #[(.func (.func 130) #[] #[.pointer (some ⟨W.heap.size + 1 + 1, 0, none⟩), .pointer (some ⟨lb, 0, none⟩), .pointer (some ⟨W.heap.size, 0, none⟩), .pointer (some ⟨W.heap.size + 1 + 1 + 1, 0, none⟩)])] 29) := ⟨_, rfl⟩
  have s1 : V1.heap.size = W.heap.size + 1 := by rw [hV1, World.size_alloc]
  have s2 : V2.heap.size = W.heap.size + 1 + 1 := by rw [hV2, World.size_alloc, s1]
  have s3 : V3.heap.size = W.heap.size + 1 + 1 + 1 := by rw [hV3, World.size_alloc, s2]
  have s4 : V4.heap.size = W.heap.size + 1 + 1 + 1 + 1 := by rw [hV4, World.size_alloc, s3]
  have m1 : Moved W V1 (fun _ => False) := hV1 ▸ Moved.alloc W _ _
  have m2 : Moved V1 V2 (fun _ => False) := hV2 ▸ Moved.alloc V1 _ _
  have m3 : Moved V2 V3 (fun _ => False) := hV3 ▸ Moved.alloc V2 _ _
  have m4 : Moved V3 V4 (fun _ => False) := hV4 ▸ Moved.alloc V3 _ _
  have m14 : Moved V1 V4 (fun _ => False) := (m2.trans m3).trans m4
  have m24 : Moved V2 V4 (fun _ => False) := m3.trans m4
  have cl1 : V1.cell? ⟨lb, 0, none⟩ = some (.slice Al ls.length capl) := cell_moved m1 cl id
  have cy1 : V1.cell? ⟨W.heap.size, 0, none⟩ = some (.func (.yield l) #[] #[]) := by rw [hV1]; exact cell_new1 W _ _
  have ch2 : V2.heap[W.heap.size + 1]? = some (.cells (zrow ls.length) 3 (0, 0)) := by
    have := World.alloc_heap_new V1 (.cells (zrow ls.length) 3)
    rw [s1] at this; rw [hV2]; exact this
  have co3 : V3.cell? ⟨W.heap.size + 1 + 1, 0, none⟩ = some (.slice (some ⟨W.heap.size + 1, 0, none⟩) 0 ls.length) := by
    have := cell_new1 V2 (.slice (some ⟨W.heap.size + 1, 0, none⟩) 0 ls.length) 24
    rw [s2] at this; rw [hV3]; exact this
  have fo3 : V3.frozen? ⟨W.heap.size + 1 + 1, 0, none⟩ = false := by
    have := World.alloc_heap_new V2 (.cells #[.slice (some ⟨W.heap.size + 1, 0, none⟩) 0 ls.length] 24)
    rw [s2] at this; rw [hV3]; simp [World.frozen?, this]
  have ce4 : V4.cell? ⟨W.heap.size + 1 + 1 + 1, 0, none⟩ = some (.func (.func 130) #[] #[.pointer (some ⟨W.heap.size + 1 + 1, 0, none⟩), .pointer (some ⟨lb, 0, none⟩), .pointer (some ⟨W.heap.size, 0, none⟩), .pointer (some ⟨W.heap.size + 1 + 1 + 1, 0, none⟩)]) := by
    have := cell_new1 V3 (.func (.func 130) #[] #[.pointer (some ⟨W.heap.size + 1 + 1, 0, none⟩), .pointer (some ⟨lb, 0, none⟩), .pointer (some ⟨W.heap.size, 0, none⟩), .pointer (some ⟨W.heap.size + 1 + 1 + 1, 0, none⟩)]) 29
    rw [s3] at this; rw [hV4]; exact this
  have hA : Apart (W.heap.size + 1 + 1) (W.heap.size + 1) lb W.heap.size (W.heap.size + 1 + 1 + 1) ab := by constructor <;> omega
  have I5 : OInv (W.heap.size + 1 + 1) (W.heap.size + 1) lb W.heap.size (W.heap.size + 1 + 1 + 1) l (W.heap.size + 4) ab ao capl Al ls [] V4 := by
    refine ⟨cell_moved m4 co3 id, ?_, ⟨zrow ls.length, ?_, zrow_size _, rfl⟩, cell_moved m14 cl1 id, fun i x hi => cell_moved m14 (cell_moved m1 (el i x hi) id) id, cell_moved m14 cy1 id, ce4, by rw [s4]; exact Nat.le_refl _⟩
    · rw [World.frozen?_of_block (m4.block (W.heap.size + 1 + 1) (by rw [s3]; omega) id)]; exact fo3
    · rw [m24.block _ (by rw [s2]; omega) id]; exact ch2
  have hj5 : J [] V4 := hJ _ _ _ h0 ((m1.trans m14).weak (fun _ h => h.elim))
  have hrec := (ext_in hA hAl hmax J (fun pre A B hj hm => hJ pre A B hj (hm.weak (fun k h => by rcases h with h | h <;> constructor <;> omega)))
    (fun pre o A hj hI hl => by
      obtain ⟨cur, h1, _, h3⟩ := hI.row
      obtain ⟨fn, tmps, assign, body, hy, hR⟩ := hY (W.heap.size + 1) pre o A (by omega) (by omega) hI.sz hj ⟨cur, h1, h3⟩ hl
      refine ⟨fn, tmps, assign, body, hy, hR.mono ?_⟩
      rintro e B ⟨he, hj', hm⟩
      have hM : ∀ k, W.heap.size ≤ k → ¬ M k := fun k hk h => by have := (hMk k h).1; omega
      exact ⟨he, hj', hI.moved hm (hM _ (by omega)) (hM _ (by omega)) (fun h => (hMk _ h).2.1 rfl) (fun h => (hMk _ h).2.2 rfl) (hM _ (Nat.le_refl _)) (hM _ (by omega))⟩)
    ls.length [] [] V4 (by simp) I5 hj5).mono (R' := fun e B => e = .returned (.bool true) ∧ J (permF ls ls.length []) B) (fun e B h => ⟨h.1, by simpa using h.2.2⟩)
  subst hV4 hV3 hV2 hV1
  refine callsIn_of_wp Try.func129 rfl trivial ?_ rfl
  simp only [Try.ntmps129, List.size_toArray, List.length_cons, List.length_nil, Nat.reduceAdd, Nat.reduceSub, Array.replicate_succ, Array.replicate_zero, List.push_toArray, List.append_toArray, List.nil_append, List.cons_append]
  clear hJ hY h0 hMk el hAl I5 hj5 hA m1 m2 m3 m4 m14 m24 s1 s2 s3 s4 cy1 ch2 co3 fo3 cl ce4
  gi_wp2_with (first
    | (gi_at_make; refine wpListIn_make_room _ rfl _ _ 24 rfl 3 i3 (by kernel_rfl) hi3 hz0 hz1 hz2 ls.length rfl rfl hmax ?_)
    | (refine ⟨trivial, rfl, ?_⟩; refine hrec.mono ?_; clear hrec; rintro e B ⟨rfl, hj⟩))
  go_end0
  exact ⟨⟨_, rfl⟩, hj⟩
end Go.Proofs.Ytpiaeckkjdcifaa
namespace Go.Proofs.Ytpiaeckkjdcifaa
set_option linter.unusedVariables false
set_option linter.unusedSimpArgs false
open Go
open Go.RowKit Go.Shelf

theorem Moved.putObj (W : World) (r : Nat) (o : Obj) {X : Nat → Prop} (h : X r) : Moved W (W.putObj r o) X :=
  ⟨fun k _ hx => World.putObj_heap_other (fun e => hx (e ▸ h)), by simp, rfl, rfl, rfl, Nat.le_refl _⟩
set_option maxHeartbeats 1000000 in
theorem range_perm {g : Operand} {p0 : Tmp} {assign body : Code} {Q : Exit → Act → World → Prop} {a : Act} {w : World} (lb ab ao capl : Nat) (Al : Option Addr) (ls : List Int)
    (hg : a.eval g = .func (.func 129) #[] #[.pointer (some ⟨lb, 0, none⟩)])
    (hAl : ls ≠ [] → Al = some ⟨ab, ao, none⟩) (hmax : ls.length ≤ 1000) (hlb : lb < w.heap.size) (hab : ab < w.heap.size)
    (cl : w.cell? ⟨lb, 0, none⟩ = some (.slice Al ls.length capl)) (el : ∀ i x, ls[i]? = some x → w.cell? ⟨ab, ao + i, none⟩ = some (.int .i64 x))
    (Mb : Nat → Prop) (hMb : ∀ k, Mb k → k < w.heap.size ∧ k ≠ lb ∧ k ≠ ab) (I : List (List Int) → World → Prop)
    (hI : ∀ pre A B, I pre A → Moved A B (fun k => w.heap.size ≤ k ∧ k < w.heap.size + 6) → I pre B) (h0 : I [] w) (a₁ : Value → Act)
    (hassign : ∀ (l : Nat) (v : Value) (W : World) (K : Act → World → Prop), K (a₁ v) W → assign.wpIn (Fence.wide.inRound l) 0 Try.prog (Exit.then K (fun _ _ _ => False)) { tmps := a.tmps.setIfInBounds p0 v, defers := [] } W)
    (hbody : ∀ (l gb : Nat) (pre : List (List Int)) (o : List Int) (A : World), w.heap.size ≤ gb → gb < w.heap.size + 6 → w.heap.size + 6 ≤ A.heap.size → I pre A → (∃ cur : Array Value, A.heap[gb]? = some (.cells cur 3 (0, 0)) ∧ cur.toList.take o.length = o.map (Value.int .i64)) → o.length = ls.length →
      body.wpIn (Fence.wide.inRound l) 0 Try.prog (fun e _ B => e = .normal ∧ Moved A B Mb ∧ I (pre ++ [o]) B) (a₁ (.slice (some ⟨gb, 0, none⟩) ls.length ls.length)) A)
    (hdone : ∀ (D : Nat) (W : World), w.heap.size ≤ D → D < w.heap.size + 6 → I (permF ls ls.length []) W → W.heap[D]? = some (.deferred (some [])) → Q .normal { a with defers := { target := .collected D, args := #[] } :: a.defers } W) :
    (Code.rangeFunc g #[p0] assign body).wpIn Fence.wide 0 Try.prog Q a w := by
  refine wpIn_rangeFunc ?_
  intro fn hfn
  obtain ⟨rec, hrec⟩ : ∃ rec : LoopState → Loop, rec = fun st => { state := st, pending := none, fn, tmps := a.tmps, params := #[p0], assign, body, defers := w.heap.size } := ⟨_, rfl⟩
  obtain ⟨W1, hW1⟩ : ∃ W1, (w.alloc (.deferred (some []))).alloc (.loop (rec .ready)) = W1 := ⟨_, rfl⟩
  have hs1 : W1.heap.size = w.heap.size + 2 := by rw [← hW1, World.size_alloc, World.size_alloc]
  have hm1 : Moved w W1 (fun _ => False) := hW1 ▸ (Moved.alloc w _ _).trans (Moved.alloc _ _ _)
  have hL1 : W1.heap[w.heap.size + 1]? = some (.loop (rec .ready)) := by
    rw [← hW1]; have := World.alloc_heap_new (w.alloc (.deferred (some []))) (.loop (rec .ready)); rwa [World.size_alloc] at this
  have hK1 : W1.heap[w.heap.size]? = some (.deferred (some [])) := by
    rw [← hW1]; exact (Below.heap_alloc _ _ _ (by simp)).trans (World.alloc_heap_new w _)
  refine ⟨w.heap.size + 1, [{ target := .collected w.heap.size, args := #[] }], W1, { target := .fn (.func 129) #[.pointer (some ⟨lb, 0, none⟩)], args := #[.func (.yield (w.heap.size + 1)) #[] #[]] }, W1, 129,
    #[.func (.yield (w.heap.size + 1)) #[] #[], .pointer (some ⟨lb, 0, none⟩)], W1, ?_, ?_, ?_, ?_, fun _ => by contradiction, ?_⟩
  · rw [← hW1, hrec]; exact run_enterLoop_outer _ _ _ _ _
  · simp only [resolve, hg]
    simp [go_sem]
  · intro f' hf'; trivial
  · have eg := enters_of (P := Try.prog) Try.func129 (by kernel_rfl) rfl
    simp [invoke, go_sem, eg]
  · refine (iter_in (w.heap.size + 1) lb ab ao capl Al ls hAl hmax
      (fun pre W => I pre W ∧ W.heap[w.heap.size + 1]? = some (.loop (rec .ready)) ∧ W.heap[w.heap.size]? = some (.deferred (some [])))
      W1 (fun k => Mb k ∨ k = w.heap.size + 1) (by omega) (by omega) (fun k hk => ?_) (cell_moved hm1 cl id) (fun i x hx => cell_moved hm1 (el i x hx) id)
      (fun pre A B hj hm => ?_) ⟨hI _ _ _ h0 (hm1.weak fun _ h => h.elim), hL1, hK1⟩ ?_).mono ?_
    · rcases hk with hk | hk
      · have := hMb k hk; exact ⟨by omega, this.2⟩
      · omega
    · obtain ⟨h1, h2, h3⟩ := hj
      refine ⟨hI _ _ _ h1 (hm.weak fun k h => ?_), ?_, ?_⟩
      · rw [hs1] at h; omega
      · rw [hm.block _ (Array.getElem?_eq_some_iff.1 h2).1 (by rw [hs1]; omega)]; exact h2
      · rw [hm.block _ (Array.getElem?_eq_some_iff.1 h3).1 (by rw [hs1]; omega)]; exact h3
    · intro gb pre o A hgb1 hgb2 hsz hj hrow hol
      obtain ⟨hi, hl, hk⟩ := hj
      rw [hs1] at hgb1 hgb2 hsz
      have hlt : w.heap.size + 1 < A.heap.size := (Array.getElem?_eq_some_iff.1 hl).1
      have hy := run_yield (P := Try.prog) (args := #[.slice (some ⟨gb, 0, none⟩) ls.length ls.length]) hl (by rw [hrec]; rfl)
      rw [hrec] at hy
      have e0 : (#[p0].zip #[Value.slice (some ⟨gb, 0, none⟩) ls.length ls.length]).foldl (fun tmps (t, a) => tmps.setIfInBounds t a) a.tmps = a.tmps.setIfInBounds p0 (.slice (some ⟨gb, 0, none⟩) ls.length ls.length) := by simp
      have hy2 : (Instr.yield (w.heap.size + 1) #[.slice (some ⟨gb, 0, none⟩) ls.length ls.length]).run Try.prog A = .ok (.round (w.heap.size + 1) fn (a.tmps.setIfInBounds p0 (.slice (some ⟨gb, 0, none⟩) ls.length ls.length)) assign body) A := by rw [← e0]; exact hy
      refine ⟨fn, _, assign, body, hy2, roundIn_of_wpIn hfn ?_⟩
      refine hassign _ _ A _ ?_
      refine ⟨_, run_beginRound hl (by rw [hrec]), ?_⟩
      obtain ⟨A2, hA2⟩ : ∃ A2, A2 = A.putObj (w.heap.size + 1) (.loop { rec .ready with state := .busy }) := ⟨_, rfl⟩
      rw [← hA2]
      have hmA : Moved A A2 (fun k => k = w.heap.size + 1) := hA2 ▸ Moved.putObj A _ _ rfl
      have hl2 : A2.heap[w.heap.size + 1]? = some (.loop { rec .ready with state := .busy }) := hA2 ▸ World.putObj_heap_same hlt
      have hk2 : A2.heap[w.heap.size]? = some (.deferred (some [])) := by rw [hA2]; exact (World.putObj_heap_other (by omega)).trans hk
      obtain ⟨cur, hr1, hr2⟩ := hrow
      refine wpIn_mono (hbody _ gb pre o A2 (by omega) (by omega) (Nat.le_trans (by omega) hmA.size) (hI _ _ _ hi (hmA.weak fun k h => by omega)) ⟨cur, by rw [hmA.block gb (Array.getElem?_eq_some_iff.1 hr1).1 (by omega)]; exact hr1, hr2⟩ hol) ?_
      rintro e a3 B ⟨rfl, hmB, hiB⟩
      have hnM : ∀ k, w.heap.size ≤ k → ¬ Mb k := fun k hk h => by have := (hMb k h).1; omega
      have hl3 : B.heap[w.heap.size + 1]? = some (.loop { rec .ready with state := .busy }) := by rw [hmB.block _ (Array.getElem?_eq_some_iff.1 hl2).1 (hnM _ (by omega))]; exact hl2
      have hk3 : B.heap[w.heap.size]? = some (.deferred (some [])) := by rw [hmB.block _ (Array.getElem?_eq_some_iff.1 hk2).1 (hnM _ (Nat.le_refl _))]; exact hk2
      have hend := run_endRound (P := Try.prog) none hl3
      refine ⟨_, _, hend, rfl, ⟨hI _ _ _ hiB (Moved.putObj B _ _ (X := fun k => w.heap.size ≤ k ∧ k < w.heap.size + 6) ⟨by omega, by omega⟩), ?_, (World.putObj_heap_other (by omega)).trans hk3⟩, ?_⟩
      · rw [World.putObj_heap_same (Array.getElem?_eq_some_iff.1 hl3).1, hrec]; rfl
      · exact ((hmA.weak fun k h => .inr h).trans (hmB.weak fun k h => .inl h)).trans (Moved.putObj B _ _ (.inr rfl))
    · rintro e W2 ⟨⟨v, rfl⟩, hi, hl, hk⟩
      refine ⟨none, _, by have := run_endLoop (P := Try.prog) hl (by rw [hrec]; simp); rw [hrec] at this; exact this, ?_⟩
      exact hdone _ _ (Nat.le_refl _) (by omega) (hI _ _ _ hi (Moved.putObj W2 _ _ (X := fun k => w.heap.size ≤ k ∧ k < w.heap.size + 6) ⟨by omega, by omega⟩)) ((World.putObj_heap_other (by omega)).trans hk)
end Go.Proofs.Ytpiaeckkjdcifaa
namespace Go.Proofs.Ytpiaeckkjdcifaa
set_option linter.unusedVariables false
set_option linter.unusedSimpArgs false
open Go
open Go.RowKit Go.Shelf
attribute [local go_sem] Oper.semAt_some

/-- A contract that is lent nothing, as the walk takes it. -/
theorem Meets.raw {f : FuncId} {C : Ctr} (hM : Meets Try.prog f C) {W : World} {vs : List Value} {args : List AV} {R : CRes} (hrun : C.run args [] = some R) (hpre : R.pre) (hc : cleanL args = true)
    (ha : ArgsRel W (fun _ => False) C.modes args [] vs) : CallsIn Fence.wide 0 Try.prog f vs.toArray W fun e W' => ∃ v ns, e = .returned v ∧ Moved W W' (fun _ => False) ∧ (∃ D, OwnsRel W' D noSig R.new ns) ∧ (∀ b, inB ns b → W.heap.size ≤ b ∧ b < W'.heap.size) ∧ ∃ D, RelV W' D (newSig ns) R.res v := by
  refine callsIn_wide.2 ?_
  have hin : ∀ b, ¬ inB [] b := fun b h => by obtain ⟨s, hs, _⟩ := h; simp at hs
  have hD : (fun b => inB [] b ∨ False) = fun _ => False := by funext b; apply propext; exact ⟨fun h => h.elim (hin b) id, fun h => h.elim⟩
  have h := hM.2.1 W vs args [] [] (fun _ => False) R.pre (fun R' => R' = R) (by simp only [runR, hrun, Option.map_some]) hpre hc rfl (fun b h => h.elim) (fun _ b h => h) (by rw [hD]; exact ha) trivial (fun b h => (hin b h).elim) (fun i j s t h => by simp at h)
  refine Calls.mono h ?_
  rintro e w' ⟨R', rfl, v, ns, rfl, hmv, _, hnew, hnb, _, hres⟩
  exact ⟨v, ns, rfl, hmv.weak (fun k h => (hin k h).elim), ⟨_, hnew⟩, hnb, ⟨_, hres⟩⟩

/-- .. that hands back one plain value. -/
theorem ROflat.moved {W W' : World} {τ : FT} {xs : List τ.T} {v : Value} {X D : Nat → Prop} (h : ROflat W D τ xs v) (hm : Moved W W' X) (hX : ∀ k, X k → D k) : ROflat W' D τ xs v := by
  rcases h with h | ⟨b, off, cap, hv, h1, h2, h3, h4⟩
  · exact .inl h
  · exact .inr ⟨b, off, cap, hv, h1, h2, h3, fun i u hu => cell_moved hm (h4 i u hu) (fun h => h3 (hX _ h))⟩
theorem ROflat.anyD {W : World} {τ : FT} {xs : List τ.T} {v : Value} {D : Nat → Prop} (h : ROflat W D τ xs v) : ROflat W (fun _ => False) τ xs v := by
  rcases h with h | ⟨b, off, cap, hv, h1, h2, h3, h4⟩
  · exact .inl h
  · exact .inr ⟨b, off, cap, hv, h1, h2, id, h4⟩

/-- One order is looked at. -/
def stepB (b r t : Int) (bs : List BoxD) (p : List Int) (x : List Int × Int) (o : List Int) : List Int × Int :=
  if 0 ≤ worstR b r t bs p o ∧ (x.2 < 0 ∨ worstR b r t bs p o < x.2) then (o, worstR b r t bs p o) else x
def foldB (b r t : Int) (bs : List BoxD) (p : List Int) (os : List (List Int)) : List Int × Int := os.foldl (stepB b r t bs p) ([], -1)
theorem foldB_snoc (b r t : Int) (bs : List BoxD) (p : List Int) (os : List (List Int)) (o : List Int) : foldB b r t bs p (os ++ [o]) = stepB b r t bs p (foldB b r t bs p os) o := by
  simp [foldB]
def bestOK (b r t : Int) (bs : List BoxD) (p : List Int) : Bool := planB b r t bs p && decide ((fullS p).length ≤ 7)
def bestR (b r t : Int) (bs : List BoxD) (p : List Int) : List Int := if bestOK b r t bs p = true then (foldB b r t bs p (permF (fullS p) (fullS p).length [])).1 else []

theorem ro_slice {W : World} {D : Nat → Prop} {τ : FT} {xs : List τ.T} {v : Value} (h : ROflat W D τ xs v) : ∃ A c, v = .slice A xs.length c := by
  rcases h with ⟨rfl, A, c, h⟩ | ⟨b, off, cap, h, _⟩
  · exact ⟨A, c, h⟩
  · exact ⟨_, cap, h⟩
theorem plan_calls {b r t : Int} {bs : List BoxD} {p : List Int} {vb vp : Value} {W : World} (hvb : ROflat W (fun _ => False) .box bs vb) (hvp : ROflat W (fun _ => False) .i64 p vp) (hbs : bs.length ≤ 9223372036854775807) (hp : p.length ≤ 9223372036854775807) :
    CallsIn Fence.wide 0 Try.prog 47 #[.agg #[.int .i64 b, .int .i64 r, .int .i64 t], vb, vp] W fun e W' => e = .returned (.bool (planB b r t bs p)) ∧ Moved W W' (fun _ => False) := by
  have h := Meets.raw m_impl_PlanValid (W := W) (vs := [.agg #[.int .i64 b, .int .i64 r, .int .i64 t], vb, vp]) (args := [.agg [.int b, .int r, .int t], .rs .box bs, .rs .i64 p]) rfl ⟨hbs, hp⟩ rfl ⟨⟨[.int .i64 b, .int .i64 r, .int .i64 t], rfl, ⟨_, _, rfl, rfl, ⟨_, _, rfl, rfl, ⟨_, _, rfl, rfl, rfl⟩⟩⟩⟩, hvb, hvp, trivial⟩
  refine h.mono ?_
  rintro e W' ⟨v, ns, rfl, hm, _, _, D, hres⟩
  have hres : v = .bool (planB b r t bs p) := hres
  exact ⟨by rw [hres], hm⟩
theorem worst_calls {b r t : Int} {bs : List BoxD} {p o : List Int} {vb vp vo : Value} {W : World} (hvb : ROflat W (fun _ => False) .box bs vb) (hvp : ROflat W (fun _ => False) .i64 p vp) (hvo : ROflat W (fun _ => False) .i64 o vo) (hbs : bs.length ≤ 9223372036854775807) (hp : p.length ≤ 9223372036854775807) (ho : o.length ≤ 9223372036854775807) :
    CallsIn Fence.wide 0 Try.prog 53 #[.agg #[.int .i64 b, .int .i64 r, .int .i64 t], vb, vp, vo] W fun e W' => e = .returned (.int .i64 (worstR b r t bs p o)) ∧ Moved W W' (fun _ => False) := by
  have h := Meets.raw m_impl_WorstHeel (W := W) (vs := [.agg #[.int .i64 b, .int .i64 r, .int .i64 t], vb, vp, vo]) (args := [.agg [.int b, .int r, .int t], .rs .box bs, .rs .i64 p, .rs .i64 o]) rfl ⟨⟨hbs, hp⟩, ho⟩ rfl ⟨⟨[.int .i64 b, .int .i64 r, .int .i64 t], rfl, ⟨_, _, rfl, rfl, ⟨_, _, rfl, rfl, ⟨_, _, rfl, rfl, rfl⟩⟩⟩⟩, hvb, hvp, hvo, trivial⟩
  refine h.mono ?_
  rintro e W' ⟨v, ns, rfl, hm, _, _, D, hres⟩
  have hres : v = .int .i64 (worstR b r t bs p o) := hres
  exact ⟨by rw [hres], hm⟩
/-- What is handed back as new. -/
theorem new_slice {W' : World} {D D' : Nat → Prop} {e : TypeId} {xs : List Int} {ns : List (Value × List Nat)} {v : Value} (hn : OwnsRel W' D noSig [.sl e .i64 xs] ns) (hr : RelV W' D' (newSig ns) (.sl 0) v) {m : Nat} (hb : ∀ b, inB ns b → m ≤ b ∧ b < W'.heap.size) :
    ∃ A c, v = .slice A xs.length c ∧ W'.ownsRow 0 e 1 v xs.length (xs.map (Value.int .i64)) ∧ ∀ k ∈ Value.blk v, m ≤ k := by
  match ns, hn with
  | [s], ⟨⟨h1, h2⟩, _⟩ =>
    have hv : v = s.1 := hr s.1 s.2 rfl
    subst hv
    have h3 : W'.ownsRow 0 e 1 s.1 xs.length (xs.map (Value.int .i64)) := by rw [List.map_eq_flatMap]; exact h1
    refine (?_ : ∃ A c, s.1 = .slice A xs.length c).elim fun A h => h.elim fun c h => ⟨A, c, h, h3, fun k hk => (hb k ⟨s, by simp, by rw [h2]; exact hk⟩).1⟩
    rcases h3.2 with ⟨h4, h5⟩ | ⟨g, cap, cur, h4, _⟩
    · exact ⟨none, 0, by rw [h4, h5]⟩
    · exact ⟨_, cap, h4⟩
theorem full_calls {p : List Int} {vp : Value} {W : World} (hvp : ROflat W (fun _ => False) .i64 p vp) (hp : p.length ≤ 1099511627776 - 1) :
    CallsIn Fence.wide 0 Try.prog 75 #[vp] W fun e W' => ∃ A c, e = .returned (.slice A (fullS p).length c) ∧ Moved W W' (fun _ => False) ∧ W'.ownsRow 0 3 1 (.slice A (fullS p).length c) (fullS p).length ((fullS p).map (Value.int .i64)) ∧ ∀ k ∈ Value.blk (.slice A (fullS p).length c), W.heap.size ≤ k := by
  have h := Meets.raw m_impl_fullSlots (W := W) (vs := [vp]) (args := [.rs .i64 p]) rfl hp rfl ⟨hvp, trivial⟩
  refine h.mono ?_
  rintro e W' ⟨v, ns, rfl, hm, ⟨D, hn⟩, hb, D', hres⟩
  obtain ⟨A, c, rfl, h1, h2⟩ := new_slice hn hres hb
  exact ⟨A, c, rfl, hm, h1, h2⟩
theorem clone_calls {o : List Int} {vo : Value} {W : World} (hvo : ROflat W (fun _ => False) .i64 o vo) (ho : o.length ≤ 1099511627776) :
    CallsIn Fence.wide 0 Try.prog 93 #[vo] W fun e W' => ∃ A c, e = .returned (.slice A o.length c) ∧ Moved W W' (fun _ => False) ∧ W'.ownsRow 0 3 1 (.slice A o.length c) o.length (o.map (Value.int .i64)) ∧ ∀ k ∈ Value.blk (.slice A o.length c), W.heap.size ≤ k := by
  have h := Meets.raw m_slices_Clone_int_int (W := W) (vs := [vo]) (args := [.rs .i64 o]) rfl ho rfl ⟨hvo, trivial⟩
  refine h.mono ?_
  rintro e W' ⟨v, ns, rfl, hm, ⟨D, hn⟩, hb, D', hres⟩
  obtain ⟨A, c, rfl, h1, h2⟩ := new_slice hn hres hb
  exact ⟨A, c, rfl, hm, h1, h2⟩
theorem perm_calls (A : Option Addr) (n c : Nat) (W : World) :
    CallsIn Fence.wide 0 Try.prog 103 #[.slice A n c] W fun e W' => e = .returned (.func (.func 129) #[] #[.pointer (some ⟨W.heap.size, 0, none⟩)]) ∧ W' = W.alloc (.cells #[.slice A n c] 24) := by
  refine callsIn_of_wp Try.func103 rfl trivial ?_ rfl
  simp only [Try.ntmps103, List.size_toArray, List.length_cons, List.length_nil, Nat.reduceAdd, Nat.reduceSub, Array.replicate_succ, Array.replicate_zero, List.push_toArray, List.append_toArray, List.nil_append, List.cons_append]
  gi_wp2
  go_ret
  exact ⟨rfl, rfl⟩
end Go.Proofs.Ytpiaeckkjdcifaa
namespace Go.Proofs.Ytpiaeckkjdcifaa
set_option linter.unusedVariables false
set_option linter.unusedSimpArgs false
open Go
open Go.RowKit Go.Shelf
attribute [local go_sem] Oper.semAt_some

/-- What the caller's memory holds between two rounds. -/
def IB (b r t : Int) (bs : List BoxD) (p : List Int) (n9 n5 : Nat) (W5 : World) (pre : List (List Int)) (A : World) : Prop :=
  ∃ v9, A.cell? ⟨n9, 0, none⟩ = some v9 ∧ A.frozen? ⟨n9, 0, none⟩ = false ∧ A.cell? ⟨n9 + 1, 0, none⟩ = some (.int .i64 (foldB b r t bs p pre).2) ∧ A.frozen? ⟨n9 + 1, 0, none⟩ = false ∧
    A.ownsRow 0 3 1 v9 (foldB b r t bs p pre).1.length ((foldB b r t bs p pre).1.map (Value.int .i64)) ∧ (∀ k ∈ Value.blk v9, n5 + 6 ≤ k) ∧ Moved W5 A (fun k => k = n9 ∨ k = n9 + 1)

set_option maxRecDepth 100000 in
set_option maxHeartbeats 4000000 in
theorem best_raw (b r t : Int) (bs : List BoxD) (p : List Int) (Ab Ap : Option Addr) (cb cp : Nat) (w : World) (hvb : ROflat w (fun _ => False) .box bs (.slice Ab bs.length cb)) (hvp : ROflat w (fun _ => False) .i64 p (.slice Ap p.length cp)) (hbs : bs.length ≤ 9223372036854775807) (hp : p.length ≤ 1099511627775) :
    CallsIn Fence.wide 0 Try.prog 51 #[.agg #[.int .i64 b, .int .i64 r, .int .i64 t], .slice Ab bs.length cb, .slice Ap p.length cp] w fun e w' => ∃ v, e = .returned (.tuple #[v, .bool (bestOK b r t bs p)]) ∧ Moved w w' (fun _ => False) ∧ w'.ownsRow 0 3 1 v (bestR b r t bs p).length ((bestR b r t bs p).map (Value.int .i64)) ∧ ∀ k ∈ Value.blk v, w.heap.size ≤ k := by
  obtain ⟨V1, hV1⟩ : ∃ V, V = w.alloc (.cells #[.int .i64 b, .int .i64 r, .int .i64 t] 46) := ⟨_, rfl⟩
  obtain ⟨V2, hV2⟩ : ∃ V, V = V1.alloc (.cells #[.slice Ab bs.length cb] 48) := ⟨_, rfl⟩
  obtain ⟨V3, hV3⟩ : ∃ V, V = V2.alloc (.cells #[.slice Ap p.length cp] 24) := ⟨_, rfl⟩
  have s1 : V1.heap.size = w.heap.size + 1 := by rw [hV1, World.size_alloc]
  have s2 : V2.heap.size = w.heap.size + 1 + 1 := by rw [hV2, World.size_alloc, s1]
  have s3 : V3.heap.size = w.heap.size + 1 + 1 + 1 := by rw [hV3, World.size_alloc, s2]
  have m3 : Moved w V3 (fun _ => False) := (hV1 ▸ Moved.alloc w _ _ : Moved w V1 _).trans ((hV2 ▸ Moved.alloc V1 _ _ : Moved V1 V2 _).trans (hV3 ▸ Moved.alloc V2 _ _ : Moved V2 V3 _))
  have c3 : V3.heap[w.heap.size]? = some (.cells #[.int .i64 b, .int .i64 r, .int .i64 t] 46 (0, 0)) := by
    have := World.alloc_heap_new w (.cells #[.int .i64 b, .int .i64 r, .int .i64 t] 46)
    rw [hV3, Below.heap_alloc V2 _ _ (by omega), hV2, Below.heap_alloc V1 _ _ (by omega), hV1]; exact this
  have c4 : V3.heap[w.heap.size + 1]? = some (.cells #[.slice Ab bs.length cb] 48 (0, 0)) := by
    have := World.alloc_heap_new V1 (.cells #[.slice Ab bs.length cb] 48)
    rw [s1] at this
    rw [hV3, Below.heap_alloc V2 _ _ (by omega), hV2]; exact this
  have c5 : V3.heap[w.heap.size + 1 + 1]? = some (.cells #[.slice Ap p.length cp] 24 (0, 0)) := by
    have := World.alloc_heap_new V2 (.cells #[.slice Ap p.length cp] 24)
    rw [s2] at this
    rw [hV3]; exact this
  have hplan := plan_calls (b := b) (r := r) (t := t) (hvb.moved m3 (fun _ h => h)) (hvp.moved m3 (fun _ h => h)) hbs (by omega)
  cases hpl : planB b r t bs p with
  | false =>
    have hok : bestOK b r t bs p = false := by simp [bestOK, hpl]
    have hR : bestR b r t bs p = [] := by simp [bestR, hok]
    replace hplan := hplan.mono (R' := fun e W' => e = .returned (.bool false) ∧ Moved w W' (fun _ => False)) (fun e W' h => ⟨by rw [h.1, hpl], m3.trans h.2⟩)
    rw [hok, hR]
    subst hV3 hV2 hV1
    clear hvb hvp s1 s2 s3 m3 c3 c4 c5
    refine callsIn_of_wp_marks Try.func51 rfl trivial ?_ rfl
    simp only [Try.ntmps51, List.size_toArray, List.length_cons, List.length_nil, Nat.reduceAdd, Nat.reduceSub, Array.replicate_succ, Array.replicate_zero, List.push_toArray, List.append_toArray, List.nil_append, List.cons_append]
    gi_wp2_with (refine ⟨trivial, rfl, ?_⟩; refine hplan.mono ?_; clear hplan; rintro e W1 ⟨rfl, hm⟩)
    exact ⟨_, results_tmp2 rfl _ _ _, _, rfl, hm, World.ownsRow_nil _ _ _ _, fun k hk => by simp [Value.blk] at hk⟩
  | true =>
    have hfull : ∀ W1, Moved V3 W1 (fun _ => False) → CallsIn Fence.wide 0 Try.prog 75 #[.slice Ap p.length cp] W1 fun e W2 => ∃ A c, e = .returned (.slice A (fullS p).length c) ∧ Moved V3 W2 (fun _ => False) ∧ W2.ownsRow 0 3 1 (.slice A (fullS p).length c) (fullS p).length ((fullS p).map (Value.int .i64)) ∧ ∀ k ∈ Value.blk (.slice A (fullS p).length c), V3.heap.size ≤ k := fun W1 hm => by
      refine (full_calls (hvp.moved (m3.trans hm) (fun _ h => h)) (by omega)).mono ?_
      rintro e W2 ⟨A, c, rfl, h1, h2, h3⟩
      exact ⟨A, c, rfl, hm.trans h1, h2, fun k hk => Nat.le_trans hm.size (h3 k hk)⟩
    replace hplan := hplan.mono (R' := fun e W1 => e = .returned (.bool true) ∧ W1.cell? ⟨w.heap.size + 1 + 1, 0, none⟩ = some (.slice Ap p.length cp) ∧ CallsIn Fence.wide 0 Try.prog 75 #[.slice Ap p.length cp] W1 fun e W2 => ∃ A c, e = .returned (.slice A (fullS p).length c) ∧ Moved V3 W2 (fun _ => False) ∧ W2.ownsRow 0 3 1 (.slice A (fullS p).length c) (fullS p).length ((fullS p).map (Value.int .i64)) ∧ ∀ k ∈ Value.blk (.slice A (fullS p).length c), V3.heap.size ≤ k)
      (fun e W' h => ⟨by rw [h.1, hpl], cell_moved h.2 (by simp [World.cell?, c5]) id, hfull W' h.2⟩)
    clear hfull
    by_cases hn : (fullS p).length ≤ 7
    · have hn' : ¬ (7 : Int) < ((fullS p).length : Int) := by omega
      obtain ⟨V, hV⟩ : ∃ V, V = V3 := ⟨_, rfl⟩
      rw [← hV] at m3 s3 c3 c4 c5
      replace hplan := hplan.mono (R' := fun e W1 => e = .returned (.bool true) ∧ W1.cell? ⟨w.heap.size + 1 + 1, 0, none⟩ = some (.slice Ap p.length cp) ∧ CallsIn Fence.wide 0 Try.prog 75 #[.slice Ap p.length cp] W1 fun e W2 => ∃ A c, e = .returned (.slice A (fullS p).length c) ∧ Hid (Moved V W2 (fun _ => False) ∧ W2.ownsRow 0 3 1 (.slice A (fullS p).length c) (fullS p).length ((fullS p).map (Value.int .i64)) ∧ ∀ k ∈ Value.blk (.slice A (fullS p).length c), V.heap.size ≤ k)) (fun e W h => by rw [hV]; exact h)
      subst hV3 hV2 hV1
      refine callsIn_of_wp_marks Try.func51 rfl trivial ?_ rfl
      simp only [Try.ntmps51, List.size_toArray, List.length_cons, List.length_nil, Nat.reduceAdd, Nat.reduceSub, Array.replicate_succ, Array.replicate_zero, List.push_toArray, List.append_toArray, List.nil_append, List.cons_append]
      have hh1 : Hid (ROflat w (fun _ => False) .box bs (.slice Ab bs.length cb) ∧ ROflat w (fun _ => False) .i64 p (.slice Ap p.length cp) ∧ V.heap.size = w.heap.size + 1 + 1 + 1 ∧ Moved w V (fun _ => False) ∧ V.heap[w.heap.size]? = some (.cells #[.int .i64 b, .int .i64 r, .int .i64 t] 46 (0, 0)) ∧ V.heap[w.heap.size + 1]? = some (.cells #[.slice Ab bs.length cb] 48 (0, 0)) ∧ V.heap[w.heap.size + 1 + 1]? = some (.cells #[.slice Ap p.length cp] 24 (0, 0))) := ⟨hvb, hvp, s3, m3, c3, c4, c5⟩
      clear hvb hvp s1 s2 s3 m3 c3 c4 c5 hV
      gi_wp2_with (first
        | (refine ⟨trivial, rfl, ?_⟩; refine hplan.mono ?_; clear hplan; rintro e W1 ⟨rfl, c51, hcon⟩)
        | (refine ⟨trivial, rfl, ?_⟩; refine hcon.mono ?_; clear hcon; rintro e W2 ⟨As, cs, rfl, hh2⟩)
        | (refine ⟨trivial, rfl, ?_⟩; refine (perm_calls _ _ _ _).mono ?_; rintro e W5 ⟨rfl, rfl⟩))
      obtain ⟨hvb, hvp, s3, m3, c3, c4, c5⟩ := hh1.out
      obtain ⟨mV2, hrow, hblk⟩ := hh2.out
      clear hh1 hh2
      have hmax : (fullS p).length ≤ 1000 := by omega
      have z2 : w.heap.size + 1 + 1 + 1 ≤ W2.heap.size := by rw [← s3]; exact mV2.size
      obtain ⟨W5, hW5⟩ : ∃ W5, W5 = ((W2.alloc (.cells #[.slice none 0 0] 24)).alloc (.cells #[.int .i64 (-1)] 3)).alloc (.cells #[.slice As (fullS p).length cs] 24) := ⟨_, rfl⟩
      rw [← hW5]
      have m25 : Moved W2 W5 (fun _ => False) := hW5 ▸ ((Moved.alloc W2 _ _).trans (Moved.alloc _ _ _)).trans (Moved.alloc _ _ _)
      have s5 : W5.heap.size = W2.heap.size + 1 + 1 + 1 := by rw [hW5, World.size_alloc, World.size_alloc, World.size_alloc]
      have d9 : W5.heap[W2.heap.size]? = some (.cells #[.slice none 0 0] 24 (0, 0)) := by
        have := World.alloc_heap_new W2 (.cells #[.slice none 0 0] 24)
        rw [hW5, Below.heap_alloc _ _ _ (by simp; omega), Below.heap_alloc _ _ _ (by simp)]; exact this
      have d10 : W5.heap[W2.heap.size + 1]? = some (.cells #[.int .i64 (-1)] 3 (0, 0)) := by
        have := World.alloc_heap_new (W2.alloc (.cells #[.slice none 0 0] 24)) (.cells #[.int .i64 (-1)] 3)
        rw [World.size_alloc] at this
        rw [hW5, Below.heap_alloc _ _ _ (by simp)]; exact this
      have d11 : W5.cell? ⟨W2.heap.size + 1 + 1, 0, none⟩ = some (.slice As (fullS p).length cs) := by
        have := cell_new1 ((W2.alloc (.cells #[.slice none 0 0] 24)).alloc (.cells #[.int .i64 (-1)] 3)) (.slice As (fullS p).length cs) 24
        rw [World.size_alloc, World.size_alloc] at this
        rw [hW5]; exact this
      obtain ⟨ab, hAl, hab, el⟩ : ∃ ab, (fullS p ≠ [] → As = some ⟨ab, 0, none⟩) ∧ ab < W2.heap.size ∧ ∀ i x, (fullS p)[i]? = some x → W5.cell? ⟨ab, 0 + i, none⟩ = some (.int .i64 x) := by
        rcases hrow.2 with ⟨h1, h2⟩ | ⟨g, cap, cur, h1, _, hg, _, _, hcs, htk⟩
        · have : fullS p = [] := List.eq_nil_of_length_eq_zero h2
          refine ⟨w.heap.size, fun h => absurd this h, by omega, fun i x hx => ?_⟩
          rw [this] at hx; simp at hx
        · simp only [Value.slice.injEq] at h1
          refine ⟨g, fun _ => h1.1, (Array.getElem?_eq_some_iff.1 hg).1, fun i x hx => cell_moved m25 ?_ id⟩
          have hu : ((fullS p).map (Value.int .i64))[i]? = some (.int .i64 x) := by rw [List.getElem?_map, hx]; rfl
          rw [← htk, List.getElem?_take] at hu
          split at hu
          · rw [cell_of_row W2 g _ cur _ (0, 0) hg, Nat.zero_add]; simpa using hu
          · cases hu
      have mw5 : Moved w W5 (fun _ => False) := (m3.trans mV2).trans m25
      refine range_perm (lb := W2.heap.size + 1 + 1) ab 0 cs As (fullS p) rfl hAl hmax (by omega) (by omega) d11 el (fun k => k = W2.heap.size ∨ k = W2.heap.size + 1) (fun k h => by omega)
        (IB b r t bs p W2.heap.size W5.heap.size W5) ?hI ?h0 (fun v => { tmps := #[.agg #[.int .i64 b, .int .i64 r, .int .i64 t], .slice Ab bs.length cb, .slice Ap p.length cp, .pointer (some ⟨w.heap.size, 0, none⟩), .pointer (some ⟨w.heap.size + 1, 0, none⟩), .pointer (some ⟨w.heap.size + 1 + 1, 0, none⟩), .slice none 0 0, .bool false, .slice As (fullS p).length cs, .pointer (some ⟨W2.heap.size, 0, none⟩), .pointer (some ⟨W2.heap.size + 1, 0, none⟩), v, undef, .agg #[.int .i64 b, .int .i64 r, .int .i64 t], .slice Ab bs.length cb, .slice Ap p.length cp, .bool true, .bool false, .slice Ap p.length cp, .slice As (fullS p).length cs, .slice As (fullS p).length cs, .int .i64 (fullS p).length, .bool (decide (7 < ((fullS p).length : Int))), .slice As (fullS p).length cs, .func (.func 129) #[] #[.pointer (some ⟨W2.heap.size + 1 + 1, 0, none⟩)], v, undef, undef, undef, undef, undef, undef, undef, undef, undef, undef, undef, undef, undef, undef, undef, undef, undef, undef, undef, undef], defers := [] }) ?assign ?body ?done
      case hI =>
        rintro pre A B ⟨v9, e1, e2, e3, e4, e5, e6, e7⟩ hm
        refine ⟨v9, cell_moved hm e1 (by show ¬ (_ ≤ W2.heap.size ∧ _); omega), ?_, cell_moved hm e3 (by show ¬ (_ ≤ W2.heap.size + 1 ∧ _); omega), ?_, ownsRow_keep e5 (fun k hk => ?_), e6, ?_⟩
        · rw [World.frozen?_of_block (hm.block W2.heap.size (World.block_lt_of_cell? A _ e1) (by omega))]; exact e2
        · rw [World.frozen?_of_block (hm.block (W2.heap.size + 1) (World.block_lt_of_cell? A _ e3) (by omega))]; exact e4
        · have h6 := e6 k hk
          exact hm.block k (ownsRow_ge e5 k hk).2 (by omega)
        · exact ⟨fun k hk hn => (hm.block k (Nat.lt_of_lt_of_le hk e7.size) (by omega)).trans (e7.block k hk hn), Nat.le_trans e7.size hm.size, hm.os.trans e7.os, hm.tape.trans e7.tape, hm.output.trans e7.output, Nat.le_trans e7.drawn hm.drawn⟩
      case h0 =>
        exact ⟨.slice none 0 0, by simp [World.cell?, d9], by simp [World.frozen?, d9], by simp [World.cell?, d10, foldB], by simp [World.frozen?, d10], World.ownsRow_nil _ _ _ _, fun k hk => by simp [Value.blk] at hk, Moved.refl _ _⟩
      case assign =>
        intro l v W K hK
        simp only [List.setIfInBounds_toArray, List.set_cons_succ, List.set_cons_zero]
        gi_wp2
        exact hK
      case body =>
        rintro l gb pre o A hg1 hg2 hsz ⟨v9, e1, e2, e3, e4, e5, e6, e7⟩ ⟨cur, hr1, hr2⟩ hol
        have mA : Moved w A (fun _ => False) := ⟨fun k hk _ => (e7.block k (Nat.lt_of_lt_of_le hk mw5.size) (by omega)).trans (mw5.block k hk id), Nat.le_trans mw5.size e7.size, e7.os.trans mw5.os, e7.tape.trans mw5.tape, e7.output.trans mw5.output, Nat.le_trans mw5.drawn e7.drawn⟩
        have mVA : ∀ k, k < V.heap.size → A.heap[k]? = V.heap[k]? := fun k hk => (e7.block k (by rw [s5]; omega) (by omega)).trans ((mV2.trans m25).block k hk id)
        have ch0 : A.cell? ⟨w.heap.size, 0, none⟩ = some (.int .i64 b) := by simp [World.cell?, mVA w.heap.size (by omega), c3]
        have ch1 : A.cell? ⟨w.heap.size, 1, none⟩ = some (.int .i64 r) := by simp [World.cell?, mVA w.heap.size (by omega), c3]
        have ch2 : A.cell? ⟨w.heap.size, 2, none⟩ = some (.int .i64 t) := by simp [World.cell?, mVA w.heap.size (by omega), c3]
        have ch4 : A.cell? ⟨w.heap.size + 1, 0, none⟩ = some (.slice Ab bs.length cb) := by simp [World.cell?, mVA (w.heap.size + 1) (by omega), c4]
        have ch5 : A.cell? ⟨w.heap.size + 1 + 1, 0, none⟩ = some (.slice Ap p.length cp) := by simp [World.cell?, mVA (w.heap.size + 1 + 1) (by omega), c5]
        have hro : ROflat A (fun _ => False) .i64 o (.slice (some ⟨gb, 0, none⟩) (fullS p).length (fullS p).length) := by
          rw [← hol]
          refine .inr ⟨gb, 0, o.length, rfl, Nat.le_refl _, by simp only [maxLen]; omega, id, fun i u hu => ?_⟩
          have hu' : (o.map (Value.int .i64))[i]? = some u := by rw [List.map_eq_flatMap]; exact hu
          rw [← hr2, List.getElem?_take] at hu'
          split at hu'
          · rw [cell_of_row A gb _ cur _ (0, 0) hr1, Nat.zero_add]; simpa using hu'
          · cases hu'
        have hwc := worst_calls (b := b) (r := r) (t := t) (hvb.moved mA (fun _ h => h)) (hvp.moved mA (fun _ h => h)) hro hbs (by omega) (by omega)
        obtain ⟨q, hq⟩ : ∃ q, q = worstR b r t bs p o := ⟨_, rfl⟩
        obtain ⟨m, hm⟩ : ∃ m, m = (foldB b r t bs p pre).2 := ⟨_, rfl⟩
        rw [← hq] at hwc
        rw [← hm] at e3
        have hfs := foldB_snoc b r t bs p pre o
        unfold stepB at hfs
        rw [← hq, ← hm] at hfs
        by_cases hup : 0 ≤ q ∧ (m < 0 ∨ q < m)
        · rw [if_pos hup] at hfs
          have hc2 := hwc.mono (R' := fun e A1 => e = .returned (.int .i64 q) ∧ A1.cell? ⟨W2.heap.size + 1, 0, none⟩ = some (.int .i64 m) ∧ CallsIn Fence.wide 0 Try.prog 93 #[.slice (some ⟨gb, 0, none⟩) (fullS p).length (fullS p).length] A1 fun e A2 => ∃ Ac cc, e = .returned (.slice Ac (fullS p).length cc) ∧ (∃ v9, A2.cell? ⟨W2.heap.size, 0, none⟩ = some v9) ∧ A2.frozen? ⟨W2.heap.size, 0, none⟩ = false ∧
              (A2.setCell ⟨W2.heap.size, 0, none⟩ (.slice Ac (fullS p).length cc)).cell? ⟨W2.heap.size + 1, 0, none⟩ = some (.int .i64 m) ∧ (A2.setCell ⟨W2.heap.size, 0, none⟩ (.slice Ac (fullS p).length cc)).frozen? ⟨W2.heap.size + 1, 0, none⟩ = false ∧
              Hid (Moved A ((A2.setCell ⟨W2.heap.size, 0, none⟩ (.slice Ac (fullS p).length cc)).setCell ⟨W2.heap.size + 1, 0, none⟩ (.int .i64 q)) (fun k => k = W2.heap.size ∨ k = W2.heap.size + 1) ∧ IB b r t bs p W2.heap.size W5.heap.size W5 (pre ++ [o]) ((A2.setCell ⟨W2.heap.size, 0, none⟩ (.slice Ac (fullS p).length cc)).setCell ⟨W2.heap.size + 1, 0, none⟩ (.int .i64 q))))
            (fun e A1 h => by
              have hmA := h.2
              refine ⟨h.1, cell_moved hmA e3 id, (clone_calls (hro.moved hmA (fun _ h => h)) (by omega)).mono ?_⟩
              rintro e A2 ⟨Ac, cc, rfl, hm2, hrow2, hblk2⟩
              have hrow3 : A2.ownsRow 0 3 1 (.slice Ac (fullS p).length cc) o.length (o.map (Value.int .i64)) := by rw [← hol]; exact hrow2
              rw [hol] at hblk2
              have hmA2 := hmA.trans hm2
              have hf9 : A2.frozen? ⟨W2.heap.size, 0, none⟩ = false := by rw [World.frozen?_of_block (hmA2.block W2.heap.size (World.block_lt_of_cell? A _ e1) id)]; exact e2
              have hf10 : A2.frozen? ⟨W2.heap.size + 1, 0, none⟩ = false := by rw [World.frozen?_of_block (hmA2.block (W2.heap.size + 1) (World.block_lt_of_cell? A _ e3) id)]; exact e4
              have hs9 := Moved.setCell A2 ⟨W2.heap.size, 0, none⟩ (.slice Ac (fullS p).length cc) (X := fun k => k = W2.heap.size) rfl
              have hs10 := Moved.setCell (A2.setCell ⟨W2.heap.size, 0, none⟩ (.slice Ac (fullS p).length cc)) ⟨W2.heap.size + 1, 0, none⟩ (.int .i64 q) (X := fun k => k = W2.heap.size + 1) rfl
              have hne : W2.heap.size + 1 ≠ W2.heap.size := by omega
              have hc10 : (A2.setCell ⟨W2.heap.size, 0, none⟩ (.slice Ac (fullS p).length cc)).cell? ⟨W2.heap.size + 1, 0, none⟩ = some (.int .i64 m) := cell_moved hs9 (cell_moved hmA2 e3 id) hne
              have hc9 : (A2.setCell ⟨W2.heap.size, 0, none⟩ (.slice Ac (fullS p).length cc)).cell? ⟨W2.heap.size, 0, none⟩ = some (.slice Ac (fullS p).length cc) := World.cell?_setCell_same' _ _ _ (by rw [cell_moved hmA2 e1 id]; rfl)
              have hmm : Moved A ((A2.setCell ⟨W2.heap.size, 0, none⟩ (.slice Ac (fullS p).length cc)).setCell ⟨W2.heap.size + 1, 0, none⟩ (.int .i64 q)) (fun k => k = W2.heap.size ∨ k = W2.heap.size + 1) := ((hmA2.weak (fun _ h => h.elim)).trans (hs9.weak (fun _ h => .inl h))).trans (hs10.weak (fun _ h => .inr h))
              have hge : ∀ k ∈ Value.blk (.slice Ac (fullS p).length cc), W5.heap.size + 6 ≤ k := fun k hk => Nat.le_trans (Nat.le_trans hsz hmA.size) (hblk2 k hk)
              refine ⟨Ac, cc, by rw [hol], ⟨v9, cell_moved hmA2 e1 id⟩, hf9, hc10, by rw [World.frozen?_setCell]; exact hf10, hmm, .slice Ac (fullS p).length cc, cell_moved hs10 hc9 (Ne.symm hne), by rw [World.frozen?_setCell, World.frozen?_setCell]; exact hf9, ?_, by rw [World.frozen?_setCell, World.frozen?_setCell]; exact hf10, ?_, hge, e7.trans hmm⟩
              · rw [hfs]; exact World.cell?_setCell_same' _ _ _ (by rw [hc10]; rfl)
              · rw [hfs]
                refine ownsRow_keep hrow3 (fun k hk => ?_)
                have h6 := hge k hk
                exact (hs10.block k (Nat.lt_of_lt_of_le (ownsRow_ge hrow3 k hk).2 hs9.size) (by omega)).trans (hs9.block k (ownsRow_ge hrow3 k hk).2 (by omega)))
          clear hwc hro hr1 hr2 mVA mA e1 e2 e3 e4 e5 e6 e7 hfs hm hq d9 d10 d11 el hAl hrow hblk c3 c4 c5 mw5 m25 mV2 m3 hvb hvp c51 hn hn' hmax
          clear hW5 s5 z2 hab s3 hsz hg1 hg2 hpl hol
          obtain ⟨h0, hup⟩ := hup
          by_cases hm0 : m < 0
          · clear hup
            gi_wp2_with (first
              | (refine ⟨trivial, rfl, ?_⟩; refine hc2.mono ?_; clear hc2; rintro e A1 ⟨rfl, f3, hcl⟩)
              | (refine ⟨trivial, rfl, ?_⟩; refine hcl.mono ?_; clear hcl; rintro e A2 ⟨Ac, cc, rfl, ⟨v9, g9⟩, k9, g10, k10, hh⟩))
            exact hh.out
          · have hqm : q < m := hup.resolve_left hm0
            clear hup
            gi_wp2_with (first
              | (refine ⟨trivial, rfl, ?_⟩; refine hc2.mono ?_; clear hc2; rintro e A1 ⟨rfl, f3, hcl⟩)
              | (refine ⟨trivial, rfl, ?_⟩; refine hcl.mono ?_; clear hcl; rintro e A2 ⟨Ac, cc, rfl, ⟨v9, g9⟩, k9, g10, k10, hh⟩))
            exact hh.out
        · rw [if_neg hup] at hfs
          have hc2 := hwc.mono (R' := fun e A1 => e = .returned (.int .i64 q) ∧ A1.cell? ⟨W2.heap.size + 1, 0, none⟩ = some (.int .i64 m) ∧ Hid (Moved A A1 (fun k => k = W2.heap.size ∨ k = W2.heap.size + 1) ∧ IB b r t bs p W2.heap.size W5.heap.size W5 (pre ++ [o]) A1))
            (fun e A1 h => by
              have hmA := h.2
              refine ⟨h.1, cell_moved hmA e3 id, hmA.weak (fun _ h => h.elim), v9, cell_moved hmA e1 id, ?_, ?_, ?_, ?_, e6, e7.trans (hmA.weak (fun _ h => h.elim))⟩
              · rw [World.frozen?_of_block (hmA.block W2.heap.size (World.block_lt_of_cell? A _ e1) id)]; exact e2
              · rw [hfs, ← hm]; exact cell_moved hmA e3 id
              · rw [World.frozen?_of_block (hmA.block (W2.heap.size + 1) (World.block_lt_of_cell? A _ e3) id)]; exact e4
              · rw [hfs]; exact ownsRow_keep e5 (fun k hk => hmA.block k (ownsRow_ge e5 k hk).2 id))
          clear hwc hro hr1 hr2 mVA mA e1 e2 e3 e4 e5 e6 e7 hfs hm hq d9 d10 d11 el hAl hrow hblk c3 c4 c5 mw5 m25 mV2 m3 hvb hvp c51 hn hn' hmax
          clear hW5 s5 z2 hab s3 hsz hg1 hg2 hpl hol
          by_cases h0 : 0 ≤ q
          · have hm0 : ¬ m < 0 := fun h => hup ⟨h0, .inl h⟩
            have hqm : ¬ q < m := fun h => hup ⟨h0, .inr h⟩
            clear hup
            gi_wp2_with (refine ⟨trivial, rfl, ?_⟩; refine hc2.mono ?_; clear hc2; rintro e A1 ⟨rfl, f3, hh⟩)
            exact hh.out
          · clear hup
            gi_wp2_with (refine ⟨trivial, rfl, ?_⟩; refine hc2.mono ?_; clear hc2; rintro e A1 ⟨rfl, f3, hh⟩)
            exact hh.out
      case done =>
        rintro D W hD1 hD2 ⟨v9, e1, e2, e3, e4, e5, e6, e7⟩ hK
        have hok : bestOK b r t bs p = true := by simp [bestOK, hpl, hn]
        have hR : bestR b r t bs p = (foldB b r t bs p (permF (fullS p) (fullS p).length [])).1 := by rw [bestR, if_pos hok]
        have hmW : Moved w W (fun _ => False) := ⟨fun k hk _ => (e7.block k (Nat.lt_of_lt_of_le hk mw5.size) (by omega)).trans (mw5.block k hk id), Nat.le_trans mw5.size e7.size, e7.os.trans mw5.os, e7.tape.trans mw5.tape, e7.output.trans mw5.output, Nat.le_trans mw5.drawn e7.drawn⟩
        have hput := Moved.putObj W D (.deferred none) (X := fun k => k = D) rfl
        have hfin : Hid (Moved w (W.putObj D (.deferred none)) (fun _ => False) ∧ (W.putObj D (.deferred none)).ownsRow 0 3 1 v9 (bestR b r t bs p).length ((bestR b r t bs p).map (Value.int .i64)) ∧ ∀ k ∈ Value.blk v9, w.heap.size ≤ k) := by
          refine ⟨⟨fun k hk _ => (hput.block k (Nat.lt_of_lt_of_le hk hmW.size) (by omega)).trans (hmW.block k hk id), Nat.le_trans hmW.size hput.size, hput.os.trans hmW.os, hput.tape.trans hmW.tape, hput.output.trans hmW.output, Nat.le_trans hmW.drawn hput.drawn⟩, ?_, fun k hk => by have := e6 k hk; omega⟩
          rw [hR]
          refine ownsRow_keep e5 (fun k hk => ?_)
          have h6 := e6 k hk
          exact hput.block k (ownsRow_ge e5 k hk).2 (by omega)
        have hok2 : Hid (bestOK b r t bs p = true) := hok
        clear hok hR hmW hput e2 e3 e4 e5 e6 e7 hW5 s5 z2 hab s3 hpl d9 d10 d11 el hAl hrow hblk c3 c4 c5 mw5 m25 mV2 m3 hvb hvp c51 hn hn' hmax hD1 hD2
        gi_wp2
        refine ⟨by simp, .inl ⟨_, _, rfl, run_takeDeferred hK, ?_⟩⟩
        exact ⟨_, results_tmp2 rfl _ _ _, _, by rw [hok2.out]; rfl, hfin.out⟩
    · have hn' : (7 : Int) < ((fullS p).length : Int) := by omega
      have hok : bestOK b r t bs p = false := by simp [bestOK, hn]
      have hR : bestR b r t bs p = [] := by simp [bestR, hok]
      rw [hok, hR]
      replace hplan := hplan.mono (R' := fun e W1 => e = .returned (.bool true) ∧ W1.cell? ⟨w.heap.size + 1 + 1, 0, none⟩ = some (.slice Ap p.length cp) ∧ CallsIn Fence.wide 0 Try.prog 75 #[.slice Ap p.length cp] W1 fun e W2 => ∃ A c, e = .returned (.slice A (fullS p).length c) ∧ Moved w W2 (fun _ => False)) (fun e W h => ⟨h.1, h.2.1, h.2.2.mono (fun e W2 ⟨A, c, h1, h2, _⟩ => ⟨A, c, h1, m3.trans h2⟩)⟩)
      subst hV3 hV2 hV1
      clear hvb hvp s1 s2 s3 m3 c3 c4 c5 hn
      refine callsIn_of_wp_marks Try.func51 rfl trivial ?_ rfl
      simp only [Try.ntmps51, List.size_toArray, List.length_cons, List.length_nil, Nat.reduceAdd, Nat.reduceSub, Array.replicate_succ, Array.replicate_zero, List.push_toArray, List.append_toArray, List.nil_append, List.cons_append]
      gi_wp2_with (first
        | (refine ⟨trivial, rfl, ?_⟩; refine hplan.mono ?_; clear hplan; rintro e W1 ⟨rfl, c51, hcon⟩)
        | (refine ⟨trivial, rfl, ?_⟩; refine hcon.mono ?_; clear hcon; rintro e W2 ⟨As, cs, rfl, hm⟩))
      exact ⟨_, results_tmp2 rfl _ _ _, _, rfl, hm, World.ownsRow_nil _ _ _ _, fun k hk => by simp [Value.blk] at hk⟩
end Go.Proofs.Ytpiaeckkjdcifaa
namespace Go.Proofs.Ytpiaeckkjdcifaa
set_option linter.unusedVariables false
set_option linter.unusedSimpArgs false
open Go

def c_impl_BestOrder : Ctr where
  modes := [.v .p, .v (.r .box), .v (.r .i64)]
  al := false
  run := fun xs os => match xs, os with
    | [.agg [.int b, .int r, .int t], .rs .box bs, .rs .i64 p], [] => some ⟨bs.length ≤ 9223372036854775807 ∧ p.length ≤ 1099511627775, .tup [.sl 0, .bool (bestOK b r t bs p)], [.sl 3 .i64 (bestR b r t bs p)], []⟩
    | _, _ => none
theorem m_impl_BestOrder : Meets Try.prog 51 c_impl_BestOrder := by
  refine ⟨⟨_, Try.func51, by rfl, rfl⟩, ?_, fun rl hrl => by cases hrl⟩
  intro w vs args owns ss A pre S hrun hpre hcl hocl hA hal hargs howns hlt hap
  simp only [runR, Option.map_eq_some_iff, Prod.mk.injEq] at hrun
  obtain ⟨R, hr, rfl, rfl⟩ := hrun
  simp only [c_impl_BestOrder] at hr
  split at hr
  case h_2 => cases hr
  rename_i b r t bs p
  cases hr
  have hin : ∀ b, ¬ inB [] b := fun b h => by obtain ⟨s, hs, _⟩ := h; simp at hs
  match ss, howns, vs, hargs with
  | [], _, [v1, v2, v3], hargs =>
    obtain ⟨h1, h2, h3, _⟩ := hargs
    obtain ⟨cs, rfl, x1, c1, rfl, hx1, x2, c2, rfl, hx2, x3, c3, rfl, hx3, hc3⟩ := h1
    have hc3 : c3 = [] := hc3
    subst hc3
    have hx1 : x1 = .int .i64 b := hx1
    have hx2 : x2 = .int .i64 r := hx2
    have hx3 : x3 = .int .i64 t := hx3
    subst hx1 hx2 hx3
    have h2' : ROflat w (fun _ => False) .box bs v2 := ROflat.anyD h2
    have h3' : ROflat w (fun _ => False) .i64 p v3 := ROflat.anyD h3
    obtain ⟨Ab, cb, rfl⟩ := ro_slice h2'
    obtain ⟨Ap, cp, rfl⟩ := ro_slice h3'
    refine Calls.mono (callsIn_wide.1 (best_raw b r t bs p Ab Ap cb cp w h2' h3' hpre.1 hpre.2)) ?_
    rintro e w' ⟨v, rfl, hm, hrow, hblk⟩
    refine ⟨_, rfl, _, [(v, Value.blk v)], rfl, hm.weak (fun _ h => h.elim), trivial, ⟨⟨?_, rfl⟩, trivial⟩, ?_, ?_, ?_⟩
    · show w'.ownsRow 0 3 1 v (bestR b r t bs p).length ((bestR b r t bs p).flatMap (FT.vals .i64))
      rw [show (bestR b r t bs p).flatMap (FT.vals .i64) = (bestR b r t bs p).map (Value.int .i64) from (List.map_eq_flatMap (f := Value.int .i64) (l := bestR b r t bs p)).symm]
      exact hrow
    · rintro k ⟨s, hs, hk⟩
      rw [List.mem_singleton] at hs; subst hs
      exact ⟨hblk k hk, (ownsRow_ge hrow k hk).2⟩
    · intro i j s t h1 h2 hij
      have h8 := (List.getElem?_eq_some_iff.1 h1).1
      have h9 := (List.getElem?_eq_some_iff.1 h2).1
      simp only [List.length_singleton] at h8 h9
      omega
    · exact ⟨[v, .bool (bestOK b r t bs p)], rfl, ⟨v, _, rfl, fun s bs hs => by cases hs; rfl, ⟨_, _, rfl, rfl, rfl⟩⟩⟩
end Go.Proofs.Ytpiaeckkjdcifaa
namespace Go.Proofs.Ytpiaeckkjdcifaa
open Go
set_option linter.unusedVariables false
set_option linter.unusedSimpArgs false


theorem stepB_cases (b r t : Int) (bs : List BoxD) (p : List Int) (x : List Int × Int) (o : List Int) : (stepB b r t bs p x o = (o, worstR b r t bs p o) ∧ 0 ≤ worstR b r t bs p o ∧ (x.2 < 0 ∨ worstR b r t bs p o < x.2)) ∨ (stepB b r t bs p x o = x ∧ (worstR b r t bs p o < 0 ∨ (0 ≤ x.2 ∧ x.2 ≤ worstR b r t bs p o))) := by
  unfold stepB
  split
  · rename_i h; exact .inl ⟨rfl, h⟩
  · rename_i h
    refine .inr ⟨rfl, ?_⟩
    by_cases h0 : worstR b r t bs p o < 0
    · exact .inl h0
    · exact .inr ⟨Int.not_lt.1 fun h1 => h ⟨by omega, .inl h1⟩, Int.not_lt.1 fun h1 => h ⟨by omega, .inr h1⟩⟩
/-- What the fold over all orders ends with. -/
theorem foldB_law (b r t : Int) (bs : List BoxD) (p : List Int) : ∀ (os : List (List Int)) (x : List Int × Int), (0 ≤ x.2 → 0 ≤ (os.foldl (stepB b r t bs p) x).2 ∧ (os.foldl (stepB b r t bs p) x).2 ≤ x.2) ∧
    (∀ o ∈ os, 0 ≤ worstR b r t bs p o → 0 ≤ (os.foldl (stepB b r t bs p) x).2 ∧ (os.foldl (stepB b r t bs p) x).2 ≤ worstR b r t bs p o) ∧
    (os.foldl (stepB b r t bs p) x = x ∨ ∃ o ∈ os, os.foldl (stepB b r t bs p) x = (o, worstR b r t bs p o) ∧ 0 ≤ worstR b r t bs p o)
  | [], x => ⟨fun h => ⟨h, Int.le_refl _⟩, fun o ho => by simp at ho, .inl rfl⟩
  | o :: os, x => by
    obtain ⟨h1, h2, h3⟩ := foldB_law b r t bs p os (stepB b r t bs p x o)
    rw [List.foldl_cons]
    rcases stepB_cases b r t bs p x o with ⟨e, g1, g2⟩ | ⟨e, g⟩
    · rw [e] at h1 h2 h3 ⊢
      dsimp only at h1
      obtain ⟨h4, h5⟩ := h1 g1
      refine ⟨fun hx => ⟨h4, by omega⟩, fun o' ho' hw => ?_, ?_⟩
      · rcases List.mem_cons.1 ho' with rfl | ho'
        · exact ⟨h4, h5⟩
        · exact h2 o' ho' hw
      · rcases h3 with h3 | ⟨o', ho', h6⟩
        · exact .inr ⟨o, by simp, h3, g1⟩
        · exact .inr ⟨o', by simp [ho'], h6⟩
    · rw [e] at h1 h2 h3 ⊢
      refine ⟨h1, fun o' ho' hw => ?_, ?_⟩
      · rcases List.mem_cons.1 ho' with rfl | ho'
        · rcases g with g | ⟨g1, g2⟩
          · omega
          · obtain ⟨h4, h5⟩ := h1 g1
            exact ⟨h4, by omega⟩
        · exact h2 o' ho' hw
      · rcases h3 with h3 | ⟨o', ho', h6⟩
        · exact .inl h3
        · exact .inr ⟨o', by simp [ho'], h6⟩
theorem perm_mem (ls : List Int) : ∀ (o acc : List Int), (acc ++ o).Nodup → (∀ x ∈ o, x ∈ ls) → acc ++ o ∈ permF ls o.length acc
  | [], acc, _, _ => by simp [permF]
  | x :: o, acc, hn, hs => by
    rw [List.length_cons, permF, List.mem_flatMap]
    have hx : x ∉ acc := fun h => by
      rw [List.nodup_append] at hn
      exact hn.2.2 x h x (by simp) rfl
    refine ⟨x, hs x (by simp), ?_⟩
    rw [if_neg hx]
    have := perm_mem ls o (acc ++ [x]) (by simpa using hn) (fun y hy => hs y (by simp [hy]))
    simpa using this
theorem perm_len (ls : List Int) : ∀ (m : Nat) (acc o : List Int), o ∈ permF ls m acc → ∃ o', o = acc ++ o' ∧ o'.length = m ∧ ∀ x ∈ o', x ∈ ls
  | 0, acc, o, h => by
    simp only [permF, List.mem_singleton] at h
    exact ⟨[], by simp [h], rfl, by simp⟩
  | m + 1, acc, o, h => by
    simp only [permF, List.mem_flatMap] at h
    obtain ⟨x, hx, h⟩ := h
    split at h
    · simp at h
    · obtain ⟨o', h1, h2, h3⟩ := perm_len ls m (acc ++ [x]) o h
      refine ⟨x :: o', by rw [h1]; simp, by simp [h2], fun y hy => ?_⟩
      rcases List.mem_cons.1 hy with rfl | hy
      · exact hx
      · exact h3 y hy

end Go.Proofs.Ytpiaeckkjdcifaa
