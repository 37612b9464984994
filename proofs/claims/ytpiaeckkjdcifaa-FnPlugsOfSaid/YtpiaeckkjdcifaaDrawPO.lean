/- Walk over drawn uses and indices. No condition. -/
import Derived.Test.YtpiaeckkjdcifaaDrawU
namespace Go.Proofs.Ytpiaeckkjdcifaa
open Go
set_option linter.unusedVariables false
set_option linter.unusedSimpArgs false

def c_spec_DrawPlugsOfR : List AV → List Own → Option (Prop × (CRes → Prop)) := fun xs os => match xs, os with
    | [.rs .u8 b], [] => some (∀ x ∈ b, 0 ≤ x ∧ x ≤ 255, fun R => ∃ (u : List (List Int)) (s : List Int), R = ⟨True, .tup [.rows u, .rs .i64 s], [], []⟩ ∧ ((u.length ≤ 7 ∧ ∀ xs ∈ u, xs.length ≤ 6) ∧ s.length ≤ 8))
    | _, _ => none
def c_spec_DrawPlugsOf : Ctr := ⟨[.v (.r .u8)], true, fun _ _ => none, some c_spec_DrawPlugsOfR⟩
theorem m_spec_DrawPlugsOf : Meets Try.prog 13 c_spec_DrawPlugsOf := by
  refine meetsR_of (T := tyT) tyOK Try.func13 (by rfl) rfl (by decide) ?_
  intro args owns pre S hrun hpre
  simp only [c_spec_DrawPlugsOfR] at hrun
  split at hrun
  case h_2 => cases hrun
  rename_i b
  cases hrun
  try dsimp only at hpre
  refine ⟨_, rfl, fun E hP hnt hnp => ?_⟩
  replace hnt : E.nt = 35 := hnt
  replace hnp : E.np = 1 := hnp
  have hT : ∀ t d, tyT t = some d → TyOK E.P t d := hP ▸ tyOK
  have hG : ∀ f C, Γof [(57, c_spec_l20Open), (58, c_spec_l20Uses), (59, c_spec_l20Rd_pick), (60, c_spec_l20Rd_odd)] f = some C → Meets E.P f C := hΓof (by rw [hP]; exact ⟨m_spec_l20Open, m_spec_l20Uses, m_spec_l20Rd_pick, m_spec_l20Rd_odd, trivial⟩)
  try simp only [show Try.f13.ntmps = 35 from rfl]
  have hc := code_take hpre
  have k1 := fun (p n : Int) (h : 1 ≤ n) => pick_box (b := b.take 2000) (p := p) (n := n) h
  
  refine W_seq (fun K1 hK1 => ?_)
  refine W_region hT hG [] [0] ?_
  rw [hnt]
  simp only [baseS, eq_self, implies_true, if_true, if_false, reduceIte, Nat.reduceBEq, Nat.reduceEqDiff, Nat.reduceLT, Nat.reduceAdd, reduceCtorEq, relC, callOK0, callOK1, fzE, c_spec_l20UsesR, tyInt, tdInt, tyBytes, tdBytes, tyRows, tdRows, tyInts, tdInts, tyRdP, tdRdP, c_spec_l20Open, c_spec_l20Uses, c_spec_l20Rd_pick, c_spec_l20Rd_odd, storeAV, setAll, FT.of, List.set_cons_zero, List.set_cons_succ, Option.isSome_some, Int.add_assoc, Int.reduceAdd, rowsAV, appAV, srcRows, srcFlat, reduceDIte, room, List.length_append, Nat.reduceLeDiff, appI, srcI, appAV_I, ownI, anyI, sameR, elems]
  repeat (refine And.intro ?_ ?_; focus (first | exact ordP (by kernel_rfl) | with_reducible exact rfl | trivial | assumption | (simp only [inR]; omega) | omega | exact ⟨hc, by omega, by omega⟩ | exact ⟨_, rfl⟩ | (simp only [List.length_append, List.length_cons, List.length_nil, room]; omega)))
  refine hK1 _ ?_
  clear hK1
  refine W_seq (fun K2 hK2 => ?_)
  refine W_region hT hG [] [4] ?_
  rw [hnt]
  simp only [baseS, eq_self, implies_true, if_true, if_false, reduceIte, Nat.reduceBEq, Nat.reduceEqDiff, Nat.reduceLT, Nat.reduceAdd, reduceCtorEq, relC, callOK0, callOK1, fzE, c_spec_l20UsesR, tyInt, tdInt, tyBytes, tdBytes, tyRows, tdRows, tyInts, tdInts, tyRdP, tdRdP, c_spec_l20Open, c_spec_l20Uses, c_spec_l20Rd_pick, c_spec_l20Rd_odd, storeAV, setAll, FT.of, List.set_cons_zero, List.set_cons_succ, Option.isSome_some, Int.add_assoc, Int.reduceAdd, rowsAV, appAV, srcRows, srcFlat, reduceDIte, room, List.length_append, Nat.reduceLeDiff, appI, srcI, appAV_I, ownI, anyI, sameR, elems]
  repeat (refine And.intro ?_ ?_; focus (first | exact ordP (by kernel_rfl) | with_reducible exact rfl | trivial | assumption | (simp only [inR]; omega) | omega | exact ⟨hc, by omega, by omega⟩ | exact ⟨_, rfl⟩ | (simp only [List.length_append, List.length_cons, List.length_nil, room]; omega)))
  refine hK2 _ ?_
  clear hK2
  refine W_seq (fun K3 hK3 => ?_)
  refine W_region hT hG [] [4, 5] ?_
  rw [hnt]
  simp only [baseS, eq_self, implies_true, if_true, if_false, reduceIte, Nat.reduceBEq, Nat.reduceEqDiff, Nat.reduceLT, Nat.reduceAdd, reduceCtorEq, relC, callOK0, callOK1, fzE, c_spec_l20UsesR, tyInt, tdInt, tyBytes, tdBytes, tyRows, tdRows, tyInts, tdInts, tyRdP, tdRdP, c_spec_l20Open, c_spec_l20Uses, c_spec_l20Rd_pick, c_spec_l20Rd_odd, storeAV, setAll, FT.of, List.set_cons_zero, List.set_cons_succ, Option.isSome_some, Int.add_assoc, Int.reduceAdd, rowsAV, appAV, srcRows, srcFlat, reduceDIte, room, List.length_append, Nat.reduceLeDiff, appI, srcI, appAV_I, ownI, anyI, sameR, elems]
  repeat (refine And.intro ?_ ?_; focus (first | exact ordP (by kernel_rfl) | with_reducible exact rfl | trivial | assumption | (simp only [inR]; omega) | omega | exact ⟨hc, by omega, by omega⟩ | exact ⟨_, rfl⟩ | (simp only [List.length_append, List.length_cons, List.length_nil, room]; omega)))
  rintro _ ⟨u, q0, rfl, hu, hq0⟩
  have hu1 := hu.1
  simp only [baseS, eq_self, implies_true, if_true, if_false, reduceIte, Nat.reduceBEq, Nat.reduceEqDiff, Nat.reduceLT, Nat.reduceAdd, reduceCtorEq, relC, callOK0, callOK1, fzE, c_spec_l20UsesR, tyInt, tdInt, tyBytes, tdBytes, tyRows, tdRows, tyInts, tdInts, tyRdP, tdRdP, c_spec_l20Open, c_spec_l20Uses, c_spec_l20Rd_pick, c_spec_l20Rd_odd, storeAV, setAll, FT.of, List.set_cons_zero, List.set_cons_succ, Option.isSome_some, Int.add_assoc, Int.reduceAdd, rowsAV, appAV, srcRows, srcFlat, reduceDIte, room, List.length_append, Nat.reduceLeDiff, appI, srcI, appAV_I, ownI, anyI, sameR, elems]
  repeat (refine And.intro ?_ ?_; focus (first | exact ordP (by kernel_rfl) | with_reducible exact rfl | trivial | assumption | (simp only [inR]; omega) | omega | exact ⟨hc, by omega, by omega⟩ | exact ⟨_, rfl⟩ | (simp only [List.length_append, List.length_cons, List.length_nil, room]; omega)))
  refine hK3 _ ?_
  clear hK3
  refine W_seq (fun K4 hK4 => ?_)
  refine W_region hT hG [] [4, 5, 6] ?_
  rw [hnt]
  simp only [baseS, eq_self, implies_true, if_true, if_false, reduceIte, Nat.reduceBEq, Nat.reduceEqDiff, Nat.reduceLT, Nat.reduceAdd, reduceCtorEq, relC, callOK0, callOK1, fzE, c_spec_l20UsesR, tyInt, tdInt, tyBytes, tdBytes, tyRows, tdRows, tyInts, tdInts, tyRdP, tdRdP, c_spec_l20Open, c_spec_l20Uses, c_spec_l20Rd_pick, c_spec_l20Rd_odd, storeAV, setAll, FT.of, List.set_cons_zero, List.set_cons_succ, Option.isSome_some, Int.add_assoc, Int.reduceAdd, rowsAV, appAV, srcRows, srcFlat, reduceDIte, room, List.length_append, Nat.reduceLeDiff, appI, srcI, appAV_I, ownI, anyI, sameR, elems]
  repeat (refine And.intro ?_ ?_; focus (first | exact ordP (by kernel_rfl) | with_reducible exact rfl | trivial | assumption | (simp only [inR]; omega) | omega | exact ⟨hc, by omega, by omega⟩ | exact ⟨_, rfl⟩ | (simp only [List.length_append, List.length_cons, List.length_nil, room]; omega)))
  refine hK4 _ ?_
  clear hK4
  refine W_seq (fun K5 hK5 => ?_)
  refine W_seq (fun K6 hK6 => ?_)
  refine W_region hT hG [] [4, 5, 6, 7] ?_
  rw [hnt]
  simp only [baseS, eq_self, implies_true, if_true, if_false, reduceIte, Nat.reduceBEq, Nat.reduceEqDiff, Nat.reduceLT, Nat.reduceAdd, reduceCtorEq, relC, callOK0, callOK1, fzE, c_spec_l20UsesR, tyInt, tdInt, tyBytes, tdBytes, tyRows, tdRows, tyInts, tdInts, tyRdP, tdRdP, c_spec_l20Open, c_spec_l20Uses, c_spec_l20Rd_pick, c_spec_l20Rd_odd, storeAV, setAll, FT.of, List.set_cons_zero, List.set_cons_succ, Option.isSome_some, Int.add_assoc, Int.reduceAdd, rowsAV, appAV, srcRows, srcFlat, reduceDIte, room, List.length_append, Nat.reduceLeDiff, appI, srcI, appAV_I, ownI, anyI, sameR, elems]
  repeat (refine And.intro ?_ ?_; focus (first | exact ordP (by kernel_rfl) | with_reducible exact rfl | trivial | assumption | (simp only [inR]; omega) | omega | exact ⟨hc, by omega, by omega⟩ | exact ⟨_, rfl⟩ | (simp only [List.length_append, List.length_cons, List.length_nil, room]; omega)))
  refine hK6 _ ?_
  clear hK6
  refine W_block ?_
  refine W_loop (α := Int × List Int × Int) [(4, .var), (5, .as), (6, .own 3 .i64), (7, .as)] (fun x => ⟨[(4, .op 4 0), (5, .rows u), (6, .sl 6), (7, .int x.1)], [(4, some (.var [.rs .u8 (b.take 2000), .int x.2.2])), (6, some (.sl 3 .i64 x.2.1))], 35⟩) (fun x => (0 ≤ x.1 ∧ x.1 ≤ u.length) ∧ ((x.2.1.length : Int) ≤ x.1) ∧ (0 ≤ x.2.2 ∧ x.2.2 ≤ 50 + x.1)) (fun x => (u.length - x.1).toNat) (0, [], q0) ?_ ?_ ?_
  · (try simp only [hnt, hnp]); rfl
  · exact ⟨by dsimp only; omega, by simp, by dsimp only; omega⟩
  rintro ⟨i, s, q⟩ ⟨hi, hl, hq⟩
  dsimp only at hi hl hq ⊢
  refine W_seq (fun K8 hK8 => ?_)
  refine W_seq (fun K9 hK9 => ?_)
  refine W_region hT hG [] [4, 5, 6, 7, 16] ?_
  rw [hnt]
  simp only [baseS, eq_self, implies_true, if_true, if_false, reduceIte, Nat.reduceBEq, Nat.reduceEqDiff, Nat.reduceLT, Nat.reduceAdd, reduceCtorEq, relC, callOK0, callOK1, fzE, c_spec_l20UsesR, tyInt, tdInt, tyBytes, tdBytes, tyRows, tdRows, tyInts, tdInts, tyRdP, tdRdP, c_spec_l20Open, c_spec_l20Uses, c_spec_l20Rd_pick, c_spec_l20Rd_odd, storeAV, setAll, FT.of, List.set_cons_zero, List.set_cons_succ, Option.isSome_some, Int.add_assoc, Int.reduceAdd, rowsAV, appAV, srcRows, srcFlat, reduceDIte, room, List.length_append, Nat.reduceLeDiff, appI, srcI, appAV_I, ownI, anyI, sameR, elems]
  repeat (refine And.intro ?_ ?_; focus (first | exact ordP (by kernel_rfl) | with_reducible exact rfl | trivial | assumption | (simp only [inR]; omega) | omega | exact ⟨hc, by omega, by omega⟩ | exact ⟨_, rfl⟩ | (simp only [List.length_append, List.length_cons, List.length_nil, room]; omega)))
  refine hK9 _ ?_
  clear hK9
  refine W_cond (b := _) rfl (fun hc10 => ?_) (fun hc10 => ?_)
  · try simp only [decide_eq_true_eq, decide_eq_false_iff_not, ne_eq, Decidable.not_not, Bool.not_eq_true', Bool.not_eq_false', Bool.or_eq_true, Bool.and_eq_true, Bool.or_eq_false_iff, Bool.and_eq_false_iff] at hc10
    refine W_skip ?_
    simp only [thenQ, blockQ, loopQ, reduceIte, Nat.reduceEqDiff]
    refine hK8 _ ?_
    clear hK8
    refine W_seq (fun K11 hK11 => ?_)
    refine W_block ?_
    refine W_seq (fun K12 hK12 => ?_)
    refine W_region hT hG [] [4, 5, 6, 7, 21] ?_
    rw [hnt]
    have hpk := k1 q 2 (by omega)
    simp only [baseS, eq_self, implies_true, if_true, if_false, reduceIte, Nat.reduceBEq, Nat.reduceEqDiff, Nat.reduceLT, Nat.reduceAdd, reduceCtorEq, relC, callOK0, callOK1, fzE, c_spec_l20UsesR, tyInt, tdInt, tyBytes, tdBytes, tyRows, tdRows, tyInts, tdInts, tyRdP, tdRdP, c_spec_l20Open, c_spec_l20Uses, c_spec_l20Rd_pick, c_spec_l20Rd_odd, storeAV, setAll, FT.of, List.set_cons_zero, List.set_cons_succ, Option.isSome_some, Int.add_assoc, Int.reduceAdd, rowsAV, appAV, srcRows, srcFlat, reduceDIte, room, List.length_append, Nat.reduceLeDiff, appI, srcI, appAV_I, ownI, anyI, sameR, elems]
    repeat (refine And.intro ?_ ?_; focus (first | exact ordP (by kernel_rfl) | with_reducible exact rfl | trivial | assumption | (simp only [inR]; omega) | omega | exact ⟨hc, by omega, by omega⟩ | exact ⟨_, rfl⟩ | (simp only [List.length_append, List.length_cons, List.length_nil, room]; omega)))
    refine hK12 _ ?_
    clear hK12
    refine W_cond (b := _) rfl (fun hc13 => ?_) (fun hc13 => ?_)
    · try simp only [decide_eq_true_eq, decide_eq_false_iff_not, ne_eq, Decidable.not_not, Bool.not_eq_true', Bool.not_eq_false', Bool.or_eq_true, Bool.and_eq_true, Bool.or_eq_false_iff, Bool.and_eq_false_iff] at hc13
      refine W_region hT hG [] [4, 5, 6, 7] ?_
      rw [hnt]
      simp only [baseS, eq_self, implies_true, if_true, if_false, reduceIte, Nat.reduceBEq, Nat.reduceEqDiff, Nat.reduceLT, Nat.reduceAdd, reduceCtorEq, relC, callOK0, callOK1, fzE, c_spec_l20UsesR, tyInt, tdInt, tyBytes, tdBytes, tyRows, tdRows, tyInts, tdInts, tyRdP, tdRdP, c_spec_l20Open, c_spec_l20Uses, c_spec_l20Rd_pick, c_spec_l20Rd_odd, storeAV, setAll, FT.of, List.set_cons_zero, List.set_cons_succ, Option.isSome_some, Int.add_assoc, Int.reduceAdd, rowsAV, appAV, srcRows, srcFlat, reduceDIte, room, List.length_append, Nat.reduceLeDiff, appI, srcI, appAV_I, ownI, anyI, sameR, elems]
      repeat (refine And.intro ?_ ?_; focus (first | exact ordP (by kernel_rfl) | with_reducible exact rfl | trivial | assumption | (simp only [inR]; omega) | omega | exact ⟨hc, by omega, by omega⟩ | exact ⟨_, rfl⟩ | (simp only [List.length_append, List.length_cons, List.length_nil, room]; omega)))
      refine hK11 _ ?_
      clear hK11
      refine W_region hT hG [] [4, 5, 6, 7] ?_
      rw [hnt]
      simp only [baseS, eq_self, implies_true, if_true, if_false, reduceIte, Nat.reduceBEq, Nat.reduceEqDiff, Nat.reduceLT, Nat.reduceAdd, reduceCtorEq, relC, callOK0, callOK1, fzE, c_spec_l20UsesR, tyInt, tdInt, tyBytes, tdBytes, tyRows, tdRows, tyInts, tdInts, tyRdP, tdRdP, c_spec_l20Open, c_spec_l20Uses, c_spec_l20Rd_pick, c_spec_l20Rd_odd, storeAV, setAll, FT.of, List.set_cons_zero, List.set_cons_succ, Option.isSome_some, Int.add_assoc, Int.reduceAdd, rowsAV, appAV, srcRows, srcFlat, reduceDIte, room, List.length_append, Nat.reduceLeDiff, appI, srcI, appAV_I, ownI, anyI, sameR, elems]
      repeat (refine And.intro ?_ ?_; focus (first | exact ordP (by kernel_rfl) | with_reducible exact rfl | trivial | assumption | (simp only [inR]; omega) | omega | exact ⟨hc, by omega, by omega⟩ | exact ⟨_, rfl⟩ | (simp only [List.length_append, List.length_cons, List.length_nil, room]; omega)))
      first
      | (refine ⟨(i + 1, s ++ [_], q + 1), (by (try simp only [hnt, hnp]); rfl), ⟨by dsimp only; omega, by simp only [List.length_append, List.length_cons, List.length_nil]; omega, by dsimp only; omega⟩, by dsimp only; omega⟩)
      | (refine ⟨(i + 1, s, q + 1), (by (try simp only [hnt, hnp]); rfl), ⟨by dsimp only; omega, by dsimp only; omega, by dsimp only; omega⟩, by dsimp only; omega⟩)
    · try simp only [decide_eq_true_eq, decide_eq_false_iff_not, ne_eq, Decidable.not_not, Bool.not_eq_true', Bool.not_eq_false', Bool.or_eq_true, Bool.and_eq_true, Bool.or_eq_false_iff, Bool.and_eq_false_iff] at hc13
      refine W_skip ?_
      simp only [thenQ, blockQ, loopQ, reduceIte, Nat.reduceEqDiff]
      refine hK11 _ ?_
      clear hK11
      refine W_region hT hG [] [4, 5, 6, 7] ?_
      rw [hnt]
      simp only [baseS, eq_self, implies_true, if_true, if_false, reduceIte, Nat.reduceBEq, Nat.reduceEqDiff, Nat.reduceLT, Nat.reduceAdd, reduceCtorEq, relC, callOK0, callOK1, fzE, c_spec_l20UsesR, tyInt, tdInt, tyBytes, tdBytes, tyRows, tdRows, tyInts, tdInts, tyRdP, tdRdP, c_spec_l20Open, c_spec_l20Uses, c_spec_l20Rd_pick, c_spec_l20Rd_odd, storeAV, setAll, FT.of, List.set_cons_zero, List.set_cons_succ, Option.isSome_some, Int.add_assoc, Int.reduceAdd, rowsAV, appAV, srcRows, srcFlat, reduceDIte, room, List.length_append, Nat.reduceLeDiff, appI, srcI, appAV_I, ownI, anyI, sameR, elems]
      repeat (refine And.intro ?_ ?_; focus (first | exact ordP (by kernel_rfl) | with_reducible exact rfl | trivial | assumption | (simp only [inR]; omega) | omega | exact ⟨hc, by omega, by omega⟩ | exact ⟨_, rfl⟩ | (simp only [List.length_append, List.length_cons, List.length_nil, room]; omega)))
      first
      | (refine ⟨(i + 1, s ++ [_], q + 1), (by (try simp only [hnt, hnp]); rfl), ⟨by dsimp only; omega, by simp only [List.length_append, List.length_cons, List.length_nil]; omega, by dsimp only; omega⟩, by dsimp only; omega⟩)
      | (refine ⟨(i + 1, s, q + 1), (by (try simp only [hnt, hnp]); rfl), ⟨by dsimp only; omega, by dsimp only; omega, by dsimp only; omega⟩, by dsimp only; omega⟩)
  · try simp only [decide_eq_true_eq, decide_eq_false_iff_not, ne_eq, Decidable.not_not, Bool.not_eq_true', Bool.not_eq_false', Bool.or_eq_true, Bool.and_eq_true, Bool.or_eq_false_iff, Bool.and_eq_false_iff] at hc10
    refine W_exit ?_
    simp only [thenQ, blockQ, loopQ, reduceIte, Nat.reduceEqDiff]
    refine hK5 _ ?_
    clear hK5
    refine W_seq (fun K14 hK14 => ?_)
    refine W_seq (fun K15 hK15 => ?_)
    refine W_region hT hG [] [5, 6, 27] ?_
    rw [hnt]
    have ho := oddP_box q 12
    simp only [baseS, eq_self, implies_true, if_true, if_false, reduceIte, Nat.reduceBEq, Nat.reduceEqDiff, Nat.reduceLT, Nat.reduceAdd, reduceCtorEq, relC, callOK0, callOK1, fzE, c_spec_l20UsesR, tyInt, tdInt, tyBytes, tdBytes, tyRows, tdRows, tyInts, tdInts, tyRdP, tdRdP, c_spec_l20Open, c_spec_l20Uses, c_spec_l20Rd_pick, c_spec_l20Rd_odd, storeAV, setAll, FT.of, List.set_cons_zero, List.set_cons_succ, Option.isSome_some, Int.add_assoc, Int.reduceAdd, rowsAV, appAV, srcRows, srcFlat, reduceDIte, room, List.length_append, Nat.reduceLeDiff, appI, srcI, appAV_I, ownI, anyI, sameR, elems]
    repeat (refine And.intro ?_ ?_; focus (first | exact ordP (by kernel_rfl) | with_reducible exact rfl | trivial | assumption | (simp only [inR]; omega) | omega | exact ⟨hc, by omega, by omega⟩ | exact ⟨_, rfl⟩ | (simp only [List.length_append, List.length_cons, List.length_nil, room]; omega)))
    refine hK15 _ ?_
    clear hK15
    refine W_cond (b := _) rfl (fun hc16 => ?_) (fun hc16 => ?_)
    · try simp only [decide_eq_true_eq, decide_eq_false_iff_not, ne_eq, Decidable.not_not, Bool.not_eq_true', Bool.not_eq_false', Bool.or_eq_true, Bool.and_eq_true, Bool.or_eq_false_iff, Bool.and_eq_false_iff] at hc16
      refine W_region hT hG [] [5, 6] ?_
      rw [hnt]
      simp only [baseS, eq_self, implies_true, if_true, if_false, reduceIte, Nat.reduceBEq, Nat.reduceEqDiff, Nat.reduceLT, Nat.reduceAdd, reduceCtorEq, relC, callOK0, callOK1, fzE, c_spec_l20UsesR, tyInt, tdInt, tyBytes, tdBytes, tyRows, tdRows, tyInts, tdInts, tyRdP, tdRdP, c_spec_l20Open, c_spec_l20Uses, c_spec_l20Rd_pick, c_spec_l20Rd_odd, storeAV, setAll, FT.of, List.set_cons_zero, List.set_cons_succ, Option.isSome_some, Int.add_assoc, Int.reduceAdd, rowsAV, appAV, srcRows, srcFlat, reduceDIte, room, List.length_append, Nat.reduceLeDiff, appI, srcI, appAV_I, ownI, anyI, sameR, elems]
      repeat (refine And.intro ?_ ?_; focus (first | exact ordP (by kernel_rfl) | with_reducible exact rfl | trivial | assumption | (simp only [inR]; omega) | omega | exact ⟨hc, by omega, by omega⟩ | exact ⟨_, rfl⟩ | (simp only [List.length_append, List.length_cons, List.length_nil, room]; omega)))
      refine hK14 _ ?_
      clear hK14
      refine W_seq (fun K17 hK17 => ?_)
      refine W_region hT hG [] [2, 3] ?_
      rw [hnt]
      simp only [baseS, eq_self, implies_true, if_true, if_false, reduceIte, Nat.reduceBEq, Nat.reduceEqDiff, Nat.reduceLT, Nat.reduceAdd, reduceCtorEq, relC, callOK0, callOK1, fzE, c_spec_l20UsesR, tyInt, tdInt, tyBytes, tdBytes, tyRows, tdRows, tyInts, tdInts, tyRdP, tdRdP, c_spec_l20Open, c_spec_l20Uses, c_spec_l20Rd_pick, c_spec_l20Rd_odd, storeAV, setAll, FT.of, List.set_cons_zero, List.set_cons_succ, Option.isSome_some, Int.add_assoc, Int.reduceAdd, rowsAV, appAV, srcRows, srcFlat, reduceDIte, room, List.length_append, Nat.reduceLeDiff, appI, srcI, appAV_I, ownI, anyI, sameR, elems]
      repeat (refine And.intro ?_ ?_; focus (first | exact ordP (by kernel_rfl) | with_reducible exact rfl | trivial | assumption | (simp only [inR]; omega) | omega | exact ⟨hc, by omega, by omega⟩ | exact ⟨_, rfl⟩ | (simp only [List.length_append, List.length_cons, List.length_nil, room]; omega)))
      refine hK17 _ ?_
      clear hK17
      refine W_re [(2, .as), (3, .fz .i64)] (by (try simp only [hnt, hnp]); rfl) ?_
      refine W_ret ?_
      simp only [thenQ, blockQ, loopQ, retR, retQ, reduceIte, Nat.reduceEqDiff]
      refine rr2 (ret0 rfl rfl rfl (.inl rfl) rfl) ?_
      refine ⟨hu, ?_⟩
      first | omega | (simp only [List.length_append, List.length_cons, List.length_nil]; omega)
    · try simp only [decide_eq_true_eq, decide_eq_false_iff_not, ne_eq, Decidable.not_not, Bool.not_eq_true', Bool.not_eq_false', Bool.or_eq_true, Bool.and_eq_true, Bool.or_eq_false_iff, Bool.and_eq_false_iff] at hc16
      refine W_skip ?_
      simp only [thenQ, blockQ, loopQ, reduceIte, Nat.reduceEqDiff]
      refine hK14 _ ?_
      clear hK14
      refine W_seq (fun K18 hK18 => ?_)
      refine W_region hT hG [] [2, 3] ?_
      rw [hnt]
      simp only [baseS, eq_self, implies_true, if_true, if_false, reduceIte, Nat.reduceBEq, Nat.reduceEqDiff, Nat.reduceLT, Nat.reduceAdd, reduceCtorEq, relC, callOK0, callOK1, fzE, c_spec_l20UsesR, tyInt, tdInt, tyBytes, tdBytes, tyRows, tdRows, tyInts, tdInts, tyRdP, tdRdP, c_spec_l20Open, c_spec_l20Uses, c_spec_l20Rd_pick, c_spec_l20Rd_odd, storeAV, setAll, FT.of, List.set_cons_zero, List.set_cons_succ, Option.isSome_some, Int.add_assoc, Int.reduceAdd, rowsAV, appAV, srcRows, srcFlat, reduceDIte, room, List.length_append, Nat.reduceLeDiff, appI, srcI, appAV_I, ownI, anyI, sameR, elems]
      repeat (refine And.intro ?_ ?_; focus (first | exact ordP (by kernel_rfl) | with_reducible exact rfl | trivial | assumption | (simp only [inR]; omega) | omega | exact ⟨hc, by omega, by omega⟩ | exact ⟨_, rfl⟩ | (simp only [List.length_append, List.length_cons, List.length_nil, room]; omega)))
      refine hK18 _ ?_
      clear hK18
      refine W_re [(2, .as), (3, .fz .i64)] (by (try simp only [hnt, hnp]); rfl) ?_
      refine W_ret ?_
      simp only [thenQ, blockQ, loopQ, retR, retQ, reduceIte, Nat.reduceEqDiff]
      refine rr2 (ret0 rfl rfl rfl (.inl rfl) rfl) ?_
      refine ⟨hu, ?_⟩
      first | omega | (simp only [List.length_append, List.length_cons, List.length_nil]; omega)

end Go.Proofs.Ytpiaeckkjdcifaa
