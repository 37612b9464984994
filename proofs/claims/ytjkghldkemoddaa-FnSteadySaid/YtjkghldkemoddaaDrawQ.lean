/- Walks over drawn plans with numbers. No condition. -/
import Derived.Test.YtjkghldkemoddaaDrawP
namespace Go.Proofs.Ytjkghldkemoddaa
open Go
set_option linter.unusedVariables false
set_option linter.unusedSimpArgs false

def c_spec_DrawRowsBearR : List AV → List Own → Option (Prop × (CRes → Prop)) := fun xs os => match xs, os with
    | [.rs .u8 b], [] => some (∀ x ∈ b, 0 ≤ x ∧ x ≤ 255, fun R => ∃ (y1 : Int) (y2 : Int) (y3 : Int) (bs : List BoxD) (pl : List Int) (n : Int), R = ⟨True, .tup [.agg [.int y1, .int y2, .int y3], .rs .box bs, .rs .i64 pl, .int n], [], []⟩ ∧ (bs.length ≤ 12 ∧ pl.length ≤ 37 ∧ (0 ≤ n ∧ n ≤ 79)))
    | _, _ => none
def c_spec_DrawRowsBear : Ctr := ⟨[.v (.r .u8)], true, fun _ _ => none, some c_spec_DrawRowsBearR⟩
theorem m_spec_DrawRowsBear : Meets Try.prog 27 c_spec_DrawRowsBear := by
  refine meetsR_of (T := tyT) tyOK Try.func27 (by rfl) rfl (by decide) ?_
  intro args owns pre S hrun hpre
  simp only [c_spec_DrawRowsBearR] at hrun
  split at hrun
  case h_2 => cases hrun
  rename_i b
  cases hrun
  try dsimp only at hpre
  refine ⟨_, rfl, fun E hP hnt hnp => ?_⟩
  replace hnt : E.nt = 23 := hnt
  replace hnp : E.np = 1 := hnp
  have hT : ∀ t d, tyT t = some d → TyOK E.P t d := hP ▸ tyOK
  have hG : ∀ f C, Γof [(69, c_spec_l20Plan), (70, c_spec_l20Open), (83, c_spec_l20Rd_pick)] f = some C → Meets E.P f C := hΓof (by rw [hP]; exact ⟨m_spec_l20Plan, m_spec_l20Open, m_spec_l20Rd_pick, trivial⟩)
  try simp only [show Try.f27.ntmps = 23 from rfl]
  have hc := code_take hpre
  have k1 := fun (p n : Int) (h : 1 ≤ n) => pick_box (b := b.take 2000) (p := p) (n := n) h
  
  refine W_seq (fun K1 hK1 => ?_)
  refine W_region hT hG [] [0, 2] ?_
  rw [hnt]
  simp only [baseS, eq_self, implies_true, if_true, if_false, reduceIte, Nat.reduceBEq, Nat.reduceEqDiff, Nat.reduceLT, Nat.reduceAdd, reduceCtorEq, relC, callOK0, callOK1, fzE, c_spec_l20PlanR, tyInt, tdInt, tyBytes, tdBytes, tyHull, tdHull, tyRdP, tdRdP, c_spec_l20Plan, c_spec_l20Open, c_spec_l20Rd_pick, storeAV, setAll, FT.of, FT.setf, List.set_cons_zero, List.set_cons_succ, Option.isSome_some, Int.add_assoc, Int.reduceAdd, rowsAV, appAV, srcRows, srcFlat, reduceDIte, room, List.length_append, Nat.reduceLeDiff, elems, Int.mul_assoc]
  repeat (refine And.intro ?_ ?_; focus (first | exact ordP (by kernel_rfl) | with_reducible exact rfl | trivial | assumption | (simp only [inR]; omega) | omega | exact ⟨hc, by omega, by omega⟩ | exact ⟨hc, by omega, by omega, by omega⟩ | exact ⟨_, rfl⟩ | exact ⟨by omega, by omega⟩ | (simp only [List.length_append, List.length_cons, List.length_nil, room]; omega)))
  refine hK1 _ ?_
  clear hK1
  refine W_seq (fun K2 hK2 => ?_)
  refine W_region hT hG [] [2, 6] ?_
  rw [hnt]
  simp only [baseS, eq_self, implies_true, if_true, if_false, reduceIte, Nat.reduceBEq, Nat.reduceEqDiff, Nat.reduceLT, Nat.reduceAdd, reduceCtorEq, relC, callOK0, callOK1, fzE, c_spec_l20PlanR, tyInt, tdInt, tyBytes, tdBytes, tyHull, tdHull, tyRdP, tdRdP, c_spec_l20Plan, c_spec_l20Open, c_spec_l20Rd_pick, storeAV, setAll, FT.of, FT.setf, List.set_cons_zero, List.set_cons_succ, Option.isSome_some, Int.add_assoc, Int.reduceAdd, rowsAV, appAV, srcRows, srcFlat, reduceDIte, room, List.length_append, Nat.reduceLeDiff, elems, Int.mul_assoc]
  repeat (refine And.intro ?_ ?_; focus (first | exact ordP (by kernel_rfl) | with_reducible exact rfl | trivial | assumption | (simp only [inR]; omega) | omega | exact ⟨hc, by omega, by omega⟩ | exact ⟨hc, by omega, by omega, by omega⟩ | exact ⟨_, rfl⟩ | exact ⟨by omega, by omega⟩ | (simp only [List.length_append, List.length_cons, List.length_nil, room]; omega)))
  refine hK2 _ ?_
  clear hK2
  refine W_seq (fun K3 hK3 => ?_)
  refine W_region hT hG [] [2, 6, 7, 8, 9] ?_
  rw [hnt]
  simp only [baseS, eq_self, implies_true, if_true, if_false, reduceIte, Nat.reduceBEq, Nat.reduceEqDiff, Nat.reduceLT, Nat.reduceAdd, reduceCtorEq, relC, callOK0, callOK1, fzE, c_spec_l20PlanR, tyInt, tdInt, tyBytes, tdBytes, tyHull, tdHull, tyRdP, tdRdP, c_spec_l20Plan, c_spec_l20Open, c_spec_l20Rd_pick, storeAV, setAll, FT.of, FT.setf, List.set_cons_zero, List.set_cons_succ, Option.isSome_some, Int.add_assoc, Int.reduceAdd, rowsAV, appAV, srcRows, srcFlat, reduceDIte, room, List.length_append, Nat.reduceLeDiff, elems, Int.mul_assoc]
  repeat (refine And.intro ?_ ?_; focus (first | exact ordP (by kernel_rfl) | with_reducible exact rfl | trivial | assumption | (simp only [inR]; omega) | omega | exact ⟨hc, by omega, by omega⟩ | exact ⟨hc, by omega, by omega, by omega⟩ | exact ⟨_, rfl⟩ | exact ⟨by omega, by omega⟩ | (simp only [List.length_append, List.length_cons, List.length_nil, room]; omega)))
  rintro _ ⟨y1, y2, y3, bs, pl, q, rfl, hbl, hpl, hq⟩
  simp only [baseS, eq_self, implies_true, if_true, if_false, reduceIte, Nat.reduceBEq, Nat.reduceEqDiff, Nat.reduceLT, Nat.reduceAdd, reduceCtorEq, relC, callOK0, callOK1, fzE, c_spec_l20PlanR, tyInt, tdInt, tyBytes, tdBytes, tyHull, tdHull, tyRdP, tdRdP, c_spec_l20Plan, c_spec_l20Open, c_spec_l20Rd_pick, storeAV, setAll, FT.of, FT.setf, List.set_cons_zero, List.set_cons_succ, Option.isSome_some, Int.add_assoc, Int.reduceAdd, rowsAV, appAV, srcRows, srcFlat, reduceDIte, room, List.length_append, Nat.reduceLeDiff, elems, Int.mul_assoc]
  repeat (refine And.intro ?_ ?_; focus (first | exact ordP (by kernel_rfl) | with_reducible exact rfl | trivial | assumption | (simp only [inR]; omega) | omega | exact ⟨hc, by omega, by omega⟩ | exact ⟨hc, by omega, by omega, by omega⟩ | exact ⟨_, rfl⟩ | exact ⟨by omega, by omega⟩ | (simp only [List.length_append, List.length_cons, List.length_nil, room]; omega)))
  refine hK3 _ ?_
  clear hK3
  refine W_seq (fun K4 hK4 => ?_)
  refine W_region_draw hT hG (by rw [hP]; exact draws_ok) [] [2, 3, 4, 5] ?_
  rw [hnt]
  simp only [baseS, eq_self, implies_true, if_true, if_false, reduceIte, Nat.reduceBEq, Nat.reduceEqDiff, Nat.reduceLT, Nat.reduceAdd, reduceCtorEq, relC, callOK0, callOK1, fzE, c_spec_l20PlanR, tyInt, tdInt, tyBytes, tdBytes, tyHull, tdHull, tyRdP, tdRdP, c_spec_l20Plan, c_spec_l20Open, c_spec_l20Rd_pick, storeAV, setAll, FT.of, FT.setf, List.set_cons_zero, List.set_cons_succ, Option.isSome_some, Int.add_assoc, Int.reduceAdd, rowsAV, appAV, srcRows, srcFlat, reduceDIte, room, List.length_append, Nat.reduceLeDiff, elems, Int.mul_assoc]
  repeat (refine And.intro ?_ ?_; focus (first | exact ordP (by kernel_rfl) | with_reducible exact rfl | trivial | assumption | (simp only [inR]; omega) | omega | exact ⟨hc, by omega, by omega⟩ | exact ⟨hc, by omega, by omega, by omega⟩ | exact ⟨_, rfl⟩ | exact ⟨by omega, by omega⟩ | (simp only [List.length_append, List.length_cons, List.length_nil, room]; omega)))
  refine hK4 _ ?_
  clear hK4
  refine W_re [(2, .var), (3, .fz .box), (4, .fz .i64), (5, .as)] (by (try simp only [hnt, hnp]); rfl) ?_
  refine W_ret ?_
  simp only [thenQ, blockQ, loopQ, retR, retQ, reduceIte, Nat.reduceEqDiff]
  refine rr6 (ret0 rfl rfl rfl (.inl rfl) rfl) ?_
  have hk := k1 q 80 (by omega)
  exact ⟨hbl, hpl, by omega, by omega⟩

def c_spec_DrawPlanTakeR : List AV → List Own → Option (Prop × (CRes → Prop)) := fun xs os => match xs, os with
    | [.rs .u8 b], [] => some (∀ x ∈ b, 0 ≤ x ∧ x ≤ 255, fun R => ∃ (y1 : Int) (y2 : Int) (y3 : Int) (bs : List BoxD) (pl : List Int) (n : Int), R = ⟨True, .tup [.agg [.int y1, .int y2, .int y3], .rs .box bs, .rs .i64 pl, .int n], [], []⟩ ∧ (bs.length ≤ 12 ∧ pl.length ≤ 37))
    | _, _ => none
def c_spec_DrawPlanTake : Ctr := ⟨[.v (.r .u8)], true, fun _ _ => none, some c_spec_DrawPlanTakeR⟩
theorem m_spec_DrawPlanTake : Meets Try.prog 30 c_spec_DrawPlanTake := by
  refine meetsR_of (T := tyT) tyOK Try.func30 (by rfl) rfl (by decide) ?_
  intro args owns pre S hrun hpre
  simp only [c_spec_DrawPlanTakeR] at hrun
  split at hrun
  case h_2 => cases hrun
  rename_i b
  cases hrun
  try dsimp only at hpre
  refine ⟨_, rfl, fun E hP hnt hnp => ?_⟩
  replace hnt : E.nt = 24 := hnt
  replace hnp : E.np = 1 := hnp
  have hT : ∀ t d, tyT t = some d → TyOK E.P t d := hP ▸ tyOK
  have hG : ∀ f C, Γof [(69, c_spec_l20Plan), (70, c_spec_l20Open), (87, c_spec_l20Slot)] f = some C → Meets E.P f C := hΓof (by rw [hP]; exact ⟨m_spec_l20Plan, m_spec_l20Open, m_spec_l20Slot, trivial⟩)
  try simp only [show Try.f30.ntmps = 24 from rfl]
  have hc := code_take hpre
  have k1 := fun (p n : Int) (h : 1 ≤ n) => pick_box (b := b.take 2000) (p := p) (n := n) h
  
  refine W_seq (fun K1 hK1 => ?_)
  refine W_region hT hG [] [0, 2] ?_
  rw [hnt]
  simp only [baseS, eq_self, implies_true, if_true, if_false, reduceIte, Nat.reduceBEq, Nat.reduceEqDiff, Nat.reduceLT, Nat.reduceAdd, reduceCtorEq, relC, callOK0, callOK1, fzE, c_spec_l20PlanR, tyInt, tdInt, tyBytes, tdBytes, tyHull, tdHull, tyInts, tdInts, tyRdP, tdRdP, c_spec_l20Plan, c_spec_l20Open, c_spec_l20Slot, storeAV, setAll, FT.of, FT.setf, List.set_cons_zero, List.set_cons_succ, Option.isSome_some, Int.add_assoc, Int.reduceAdd, rowsAV, appAV, srcRows, srcFlat, reduceDIte, room, List.length_append, Nat.reduceLeDiff, elems, Int.mul_assoc]
  repeat (refine And.intro ?_ ?_; focus (first | exact ordP (by kernel_rfl) | with_reducible exact rfl | trivial | assumption | (simp only [inR]; omega) | omega | exact ⟨hc, by omega, by omega⟩ | exact ⟨hc, by omega, by omega, by omega⟩ | exact ⟨_, rfl⟩ | exact ⟨by omega, by omega⟩ | (simp only [List.length_append, List.length_cons, List.length_nil, room]; omega)))
  refine hK1 _ ?_
  clear hK1
  refine W_seq (fun K2 hK2 => ?_)
  refine W_region hT hG [] [2, 6] ?_
  rw [hnt]
  simp only [baseS, eq_self, implies_true, if_true, if_false, reduceIte, Nat.reduceBEq, Nat.reduceEqDiff, Nat.reduceLT, Nat.reduceAdd, reduceCtorEq, relC, callOK0, callOK1, fzE, c_spec_l20PlanR, tyInt, tdInt, tyBytes, tdBytes, tyHull, tdHull, tyInts, tdInts, tyRdP, tdRdP, c_spec_l20Plan, c_spec_l20Open, c_spec_l20Slot, storeAV, setAll, FT.of, FT.setf, List.set_cons_zero, List.set_cons_succ, Option.isSome_some, Int.add_assoc, Int.reduceAdd, rowsAV, appAV, srcRows, srcFlat, reduceDIte, room, List.length_append, Nat.reduceLeDiff, elems, Int.mul_assoc]
  repeat (refine And.intro ?_ ?_; focus (first | exact ordP (by kernel_rfl) | with_reducible exact rfl | trivial | assumption | (simp only [inR]; omega) | omega | exact ⟨hc, by omega, by omega⟩ | exact ⟨hc, by omega, by omega, by omega⟩ | exact ⟨_, rfl⟩ | exact ⟨by omega, by omega⟩ | (simp only [List.length_append, List.length_cons, List.length_nil, room]; omega)))
  refine hK2 _ ?_
  clear hK2
  refine W_seq (fun K3 hK3 => ?_)
  refine W_region hT hG [] [2, 6, 7, 8, 9] ?_
  rw [hnt]
  simp only [baseS, eq_self, implies_true, if_true, if_false, reduceIte, Nat.reduceBEq, Nat.reduceEqDiff, Nat.reduceLT, Nat.reduceAdd, reduceCtorEq, relC, callOK0, callOK1, fzE, c_spec_l20PlanR, tyInt, tdInt, tyBytes, tdBytes, tyHull, tdHull, tyInts, tdInts, tyRdP, tdRdP, c_spec_l20Plan, c_spec_l20Open, c_spec_l20Slot, storeAV, setAll, FT.of, FT.setf, List.set_cons_zero, List.set_cons_succ, Option.isSome_some, Int.add_assoc, Int.reduceAdd, rowsAV, appAV, srcRows, srcFlat, reduceDIte, room, List.length_append, Nat.reduceLeDiff, elems, Int.mul_assoc]
  repeat (refine And.intro ?_ ?_; focus (first | exact ordP (by kernel_rfl) | with_reducible exact rfl | trivial | assumption | (simp only [inR]; omega) | omega | exact ⟨hc, by omega, by omega⟩ | exact ⟨hc, by omega, by omega, by omega⟩ | exact ⟨_, rfl⟩ | exact ⟨by omega, by omega⟩ | (simp only [List.length_append, List.length_cons, List.length_nil, room]; omega)))
  rintro _ ⟨y1, y2, y3, bs, pl, q, rfl, hbl, hpl, hq⟩
  simp only [baseS, eq_self, implies_true, if_true, if_false, reduceIte, Nat.reduceBEq, Nat.reduceEqDiff, Nat.reduceLT, Nat.reduceAdd, reduceCtorEq, relC, callOK0, callOK1, fzE, c_spec_l20PlanR, tyInt, tdInt, tyBytes, tdBytes, tyHull, tdHull, tyInts, tdInts, tyRdP, tdRdP, c_spec_l20Plan, c_spec_l20Open, c_spec_l20Slot, storeAV, setAll, FT.of, FT.setf, List.set_cons_zero, List.set_cons_succ, Option.isSome_some, Int.add_assoc, Int.reduceAdd, rowsAV, appAV, srcRows, srcFlat, reduceDIte, room, List.length_append, Nat.reduceLeDiff, elems, Int.mul_assoc]
  repeat (refine And.intro ?_ ?_; focus (first | exact ordP (by kernel_rfl) | with_reducible exact rfl | trivial | assumption | (simp only [inR]; omega) | omega | exact ⟨hc, by omega, by omega⟩ | exact ⟨hc, by omega, by omega, by omega⟩ | exact ⟨_, rfl⟩ | exact ⟨by omega, by omega⟩ | (simp only [List.length_append, List.length_cons, List.length_nil, room]; omega)))
  refine hK3 _ ?_
  clear hK3
  refine W_seq (fun K4 hK4 => ?_)
  refine W_region_draw hT hG (by rw [hP]; exact draws_ok) [] [2, 3, 4, 5] ?_
  rw [hnt]
  simp only [baseS, eq_self, implies_true, if_true, if_false, reduceIte, Nat.reduceBEq, Nat.reduceEqDiff, Nat.reduceLT, Nat.reduceAdd, reduceCtorEq, relC, callOK0, callOK1, fzE, c_spec_l20PlanR, tyInt, tdInt, tyBytes, tdBytes, tyHull, tdHull, tyInts, tdInts, tyRdP, tdRdP, c_spec_l20Plan, c_spec_l20Open, c_spec_l20Slot, storeAV, setAll, FT.of, FT.setf, List.set_cons_zero, List.set_cons_succ, Option.isSome_some, Int.add_assoc, Int.reduceAdd, rowsAV, appAV, srcRows, srcFlat, reduceDIte, room, List.length_append, Nat.reduceLeDiff, elems, Int.mul_assoc]
  repeat (refine And.intro ?_ ?_; focus (first | exact ordP (by kernel_rfl) | with_reducible exact rfl | trivial | assumption | (simp only [inR]; omega) | omega | exact ⟨hc, by omega, by omega⟩ | exact ⟨hc, by omega, by omega, by omega⟩ | exact ⟨_, rfl⟩ | exact ⟨by omega, by omega⟩ | (simp only [List.length_append, List.length_cons, List.length_nil, room]; omega)))
  refine hK4 _ ?_
  clear hK4
  refine W_re [(2, .var), (3, .fz .box), (4, .fz .i64), (5, .as)] (by (try simp only [hnt, hnp]); rfl) ?_
  refine W_ret ?_
  simp only [thenQ, blockQ, loopQ, retR, retQ, reduceIte, Nat.reduceEqDiff]
  refine rr6 (ret0 rfl rfl rfl (.inl rfl) rfl) ?_
  exact ⟨hbl, hpl⟩

def c_spec_DrawSteadyR : List AV → List Own → Option (Prop × (CRes → Prop)) := fun xs os => match xs, os with
    | [.rs .u8 b], [] => some (∀ x ∈ b, 0 ≤ x ∧ x ≤ 255, fun R => ∃ (y1 : Int) (y2 : Int) (y3 : Int) (bs : List BoxD) (pl : List Int) (x : Int) (y : Int), R = ⟨True, .tup [.agg [.int y1, .int y2, .int y3], .rs .box bs, .rs .i64 pl, .int x, .int y], [], []⟩ ∧ (bs.length ≤ 12 ∧ pl.length ≤ 37 ∧ (-1 ≤ x ∧ x ≤ 89) ∧ (0 ≤ y ∧ y ≤ 119)))
    | _, _ => none
def c_spec_DrawSteady : Ctr := ⟨[.v (.r .u8)], true, fun _ _ => none, some c_spec_DrawSteadyR⟩
theorem m_spec_DrawSteady : Meets Try.prog 52 c_spec_DrawSteady := by
  refine meetsR_of (T := tyT) tyOK Try.func52 (by rfl) rfl (by decide) ?_
  intro args owns pre S hrun hpre
  simp only [c_spec_DrawSteadyR] at hrun
  split at hrun
  case h_2 => cases hrun
  rename_i b
  cases hrun
  try dsimp only at hpre
  refine ⟨_, rfl, fun E hP hnt hnp => ?_⟩
  replace hnt : E.nt = 30 := hnt
  replace hnp : E.np = 1 := hnp
  have hT : ∀ t d, tyT t = some d → TyOK E.P t d := hP ▸ tyOK
  have hG : ∀ f C, Γof [(69, c_spec_l20Plan), (70, c_spec_l20Open), (83, c_spec_l20Rd_pick)] f = some C → Meets E.P f C := hΓof (by rw [hP]; exact ⟨m_spec_l20Plan, m_spec_l20Open, m_spec_l20Rd_pick, trivial⟩)
  try simp only [show Try.f52.ntmps = 30 from rfl]
  have hc := code_take hpre
  have k1 := fun (p n : Int) (h : 1 ≤ n) => pick_box (b := b.take 2000) (p := p) (n := n) h
  
  refine W_seq (fun K1 hK1 => ?_)
  refine W_region hT hG [] [0, 2] ?_
  rw [hnt]
  simp only [baseS, eq_self, implies_true, if_true, if_false, reduceIte, Nat.reduceBEq, Nat.reduceEqDiff, Nat.reduceLT, Nat.reduceAdd, reduceCtorEq, relC, callOK0, callOK1, fzE, c_spec_l20PlanR, tyInt, tdInt, tyBytes, tdBytes, tyHull, tdHull, tyRdP, tdRdP, c_spec_l20Plan, c_spec_l20Open, c_spec_l20Rd_pick, storeAV, setAll, FT.of, FT.setf, List.set_cons_zero, List.set_cons_succ, Option.isSome_some, Int.add_assoc, Int.reduceAdd, rowsAV, appAV, srcRows, srcFlat, reduceDIte, room, List.length_append, Nat.reduceLeDiff, elems, Int.mul_assoc]
  repeat (refine And.intro ?_ ?_; focus (first | exact ordP (by kernel_rfl) | with_reducible exact rfl | trivial | assumption | (simp only [inR]; omega) | omega | exact ⟨hc, by omega, by omega⟩ | exact ⟨hc, by omega, by omega, by omega⟩ | exact ⟨_, rfl⟩ | exact ⟨by omega, by omega⟩ | (simp only [List.length_append, List.length_cons, List.length_nil, room]; omega)))
  refine hK1 _ ?_
  clear hK1
  refine W_seq (fun K2 hK2 => ?_)
  refine W_region hT hG [] [2, 7] ?_
  rw [hnt]
  simp only [baseS, eq_self, implies_true, if_true, if_false, reduceIte, Nat.reduceBEq, Nat.reduceEqDiff, Nat.reduceLT, Nat.reduceAdd, reduceCtorEq, relC, callOK0, callOK1, fzE, c_spec_l20PlanR, tyInt, tdInt, tyBytes, tdBytes, tyHull, tdHull, tyRdP, tdRdP, c_spec_l20Plan, c_spec_l20Open, c_spec_l20Rd_pick, storeAV, setAll, FT.of, FT.setf, List.set_cons_zero, List.set_cons_succ, Option.isSome_some, Int.add_assoc, Int.reduceAdd, rowsAV, appAV, srcRows, srcFlat, reduceDIte, room, List.length_append, Nat.reduceLeDiff, elems, Int.mul_assoc]
  repeat (refine And.intro ?_ ?_; focus (first | exact ordP (by kernel_rfl) | with_reducible exact rfl | trivial | assumption | (simp only [inR]; omega) | omega | exact ⟨hc, by omega, by omega⟩ | exact ⟨hc, by omega, by omega, by omega⟩ | exact ⟨_, rfl⟩ | exact ⟨by omega, by omega⟩ | (simp only [List.length_append, List.length_cons, List.length_nil, room]; omega)))
  refine hK2 _ ?_
  clear hK2
  refine W_seq (fun K3 hK3 => ?_)
  refine W_region hT hG [] [2, 7, 8, 9, 10] ?_
  rw [hnt]
  simp only [baseS, eq_self, implies_true, if_true, if_false, reduceIte, Nat.reduceBEq, Nat.reduceEqDiff, Nat.reduceLT, Nat.reduceAdd, reduceCtorEq, relC, callOK0, callOK1, fzE, c_spec_l20PlanR, tyInt, tdInt, tyBytes, tdBytes, tyHull, tdHull, tyRdP, tdRdP, c_spec_l20Plan, c_spec_l20Open, c_spec_l20Rd_pick, storeAV, setAll, FT.of, FT.setf, List.set_cons_zero, List.set_cons_succ, Option.isSome_some, Int.add_assoc, Int.reduceAdd, rowsAV, appAV, srcRows, srcFlat, reduceDIte, room, List.length_append, Nat.reduceLeDiff, elems, Int.mul_assoc]
  repeat (refine And.intro ?_ ?_; focus (first | exact ordP (by kernel_rfl) | with_reducible exact rfl | trivial | assumption | (simp only [inR]; omega) | omega | exact ⟨hc, by omega, by omega⟩ | exact ⟨hc, by omega, by omega, by omega⟩ | exact ⟨_, rfl⟩ | exact ⟨by omega, by omega⟩ | (simp only [List.length_append, List.length_cons, List.length_nil, room]; omega)))
  rintro _ ⟨y1, y2, y3, bs, pl, q, rfl, hbl, hpl, hq⟩
  simp only [baseS, eq_self, implies_true, if_true, if_false, reduceIte, Nat.reduceBEq, Nat.reduceEqDiff, Nat.reduceLT, Nat.reduceAdd, reduceCtorEq, relC, callOK0, callOK1, fzE, c_spec_l20PlanR, tyInt, tdInt, tyBytes, tdBytes, tyHull, tdHull, tyRdP, tdRdP, c_spec_l20Plan, c_spec_l20Open, c_spec_l20Rd_pick, storeAV, setAll, FT.of, FT.setf, List.set_cons_zero, List.set_cons_succ, Option.isSome_some, Int.add_assoc, Int.reduceAdd, rowsAV, appAV, srcRows, srcFlat, reduceDIte, room, List.length_append, Nat.reduceLeDiff, elems, Int.mul_assoc]
  repeat (refine And.intro ?_ ?_; focus (first | exact ordP (by kernel_rfl) | with_reducible exact rfl | trivial | assumption | (simp only [inR]; omega) | omega | exact ⟨hc, by omega, by omega⟩ | exact ⟨hc, by omega, by omega, by omega⟩ | exact ⟨_, rfl⟩ | exact ⟨by omega, by omega⟩ | (simp only [List.length_append, List.length_cons, List.length_nil, room]; omega)))
  refine hK3 _ ?_
  clear hK3
  refine W_seq (fun K4 hK4 => ?_)
  refine W_region_draw hT hG (by rw [hP]; exact draws_ok) [] [2, 3, 4, 5, 6] ?_
  rw [hnt]
  have hk1 := k1 q 90 (by omega)
  have hk2 := k1 (q + 1) 12 (by omega)
  have hk3 := k1 (q + 2) 120 (by omega)
  simp only [baseS, eq_self, implies_true, if_true, if_false, reduceIte, Nat.reduceBEq, Nat.reduceEqDiff, Nat.reduceLT, Nat.reduceAdd, reduceCtorEq, relC, callOK0, callOK1, fzE, c_spec_l20PlanR, tyInt, tdInt, tyBytes, tdBytes, tyHull, tdHull, tyRdP, tdRdP, c_spec_l20Plan, c_spec_l20Open, c_spec_l20Rd_pick, storeAV, setAll, FT.of, FT.setf, List.set_cons_zero, List.set_cons_succ, Option.isSome_some, Int.add_assoc, Int.reduceAdd, rowsAV, appAV, srcRows, srcFlat, reduceDIte, room, List.length_append, Nat.reduceLeDiff, elems, Int.mul_assoc]
  repeat (refine And.intro ?_ ?_; focus (first | exact ordP (by kernel_rfl) | with_reducible exact rfl | trivial | assumption | (simp only [inR]; omega) | omega | exact ⟨hc, by omega, by omega⟩ | exact ⟨hc, by omega, by omega, by omega⟩ | exact ⟨_, rfl⟩ | exact ⟨by omega, by omega⟩ | (simp only [List.length_append, List.length_cons, List.length_nil, room]; omega)))
  refine hK4 _ ?_
  clear hK4
  refine W_re [(2, .var), (3, .fz .box), (4, .fz .i64), (5, .as), (6, .as)] (by (try simp only [hnt, hnp]); rfl) ?_
  refine W_ret ?_
  simp only [thenQ, blockQ, loopQ, retR, retQ, reduceIte, Nat.reduceEqDiff]
  refine rr7 (ret0 rfl rfl rfl (.inl rfl) rfl) ?_
  have hk1 := k1 q 90 (by omega)
  have hk2 := k1 (q + 1) 12 (by omega)
  have hk3 := k1 (q + 2) 120 (by omega)
  exact ⟨hbl, hpl, ⟨by omega, by omega⟩, by omega, by omega⟩

end Go.Proofs.Ytjkghldkemoddaa
