/- Walks over drawn boxes and plans. No condition. -/
import Derived.Test.YtpiaeckkjdcifaaDrawA
import Derived.Test.YtpiaeckkjdcifaaPut
import Derived.Test.YtpiaeckkjdcifaaNext
namespace Go.Proofs.Ytpiaeckkjdcifaa
open Go
set_option linter.unusedVariables false
set_option linter.unusedSimpArgs false

theorem rr7 {fn : Func} {C : Ctr} {st : AState} {α1 : Type} {α2 : Type} {α3 : Type} {α4 : Type} {α5 : Type} {α6 : Type} {α7 : Type} {g : α1 → α2 → α3 → α4 → α5 → α6 → α7 → CRes} {p : α1 → α2 → α3 → α4 → α5 → α6 → α7 → Prop} {a1 : α1} {a2 : α2} {a3 : α3} {a4 : α4} {a5 : α5} {a6 : α6} {a7 : α7} (hret : ∃ rs, RetOK tyT fn C (g a1 a2 a3 a4 a5 a6 a7) rs st) (hg : p a1 a2 a3 a4 a5 a6 a7) : ∃ R, (∃ a1 a2 a3 a4 a5 a6 a7, R = g a1 a2 a3 a4 a5 a6 a7 ∧ p a1 a2 a3 a4 a5 a6 a7) ∧ ∃ rs, RetOK tyT fn C R rs st := ⟨_, ⟨a1, a2, a3, a4, a5, a6, a7, rfl, hg⟩, hret⟩
theorem rr8 {fn : Func} {C : Ctr} {st : AState} {α1 : Type} {α2 : Type} {α3 : Type} {α4 : Type} {α5 : Type} {α6 : Type} {α7 : Type} {α8 : Type} {g : α1 → α2 → α3 → α4 → α5 → α6 → α7 → α8 → CRes} {p : α1 → α2 → α3 → α4 → α5 → α6 → α7 → α8 → Prop} {a1 : α1} {a2 : α2} {a3 : α3} {a4 : α4} {a5 : α5} {a6 : α6} {a7 : α7} {a8 : α8} (hret : ∃ rs, RetOK tyT fn C (g a1 a2 a3 a4 a5 a6 a7 a8) rs st) (hg : p a1 a2 a3 a4 a5 a6 a7 a8) : ∃ R, (∃ a1 a2 a3 a4 a5 a6 a7 a8, R = g a1 a2 a3 a4 a5 a6 a7 a8 ∧ p a1 a2 a3 a4 a5 a6 a7 a8) ∧ ∃ rs, RetOK tyT fn C R rs st := ⟨_, ⟨a1, a2, a3, a4, a5, a6, a7, a8, rfl, hg⟩, hret⟩

def emptyR (b r t : Int) : List Int := if hv b r t = true then List.replicate (b * r * t).toNat 0 else []
theorem empty_len (b r t : Int) : (emptyR b r t).length ≤ 36 := by
  unfold emptyR; split
  · rename_i h; have := hv_box h; rw [List.length_replicate]; omega
  · simp
theorem putR_le (b r t : Int) (bs : List BoxD) (p : List Int) (s n : Int) : (putR b r t bs p s n).1.length ≤ p.length := by
  unfold putR; split
  · split
    · split <;> simp
    · simp
  · simp

def c_spec_PlanEmpty : Ctr where
  modes := [.v .p]
  al := false
  run := fun xs os => match xs, os with
    | [.agg [.int b, .int r, .int t]], [] => some ⟨True, .sl 0, [.sl 3 .i64 (emptyR b r t)], []⟩
    | _, _ => none
theorem m_spec_PlanEmpty : Meets Try.prog 119 c_spec_PlanEmpty := by
  refine meets_of (T := tyT) tyOK Try.func119 (by rfl) rfl (by decide) ?_
  intro args owns R hrun hpre
  simp only [c_spec_PlanEmpty] at hrun
  split at hrun
  case h_2 => cases hrun
  rename_i b r t
  cases hrun
  try dsimp only at hpre
  refine ⟨_, rfl, fun E hP hnt hnp => ?_⟩
  replace hnt : E.nt = 10 := hnt
  replace hnp : E.np = 1 := hnp
  have hT : ∀ t d, tyT t = some d → TyOK E.P t d := hP ▸ tyOK
  have hG : ∀ f C, Γof [(81, c_spec_HullValid), (83, c_spec_SlotMany)] f = some C → Meets E.P f C := hΓof (by rw [hP]; exact ⟨m_spec_HullValid, m_spec_SlotMany, trivial⟩)
  try simp only [show Try.f119.ntmps = 10 from rfl]
  have hbb := @hv_box b r t
  have hmy : hv b r t = true → many b r t = b * r * t := fun h => by rw [many, if_pos h]
  refine W_seq (fun K1 hK1 => ?_)
  refine W_region hT hG [] [1] ?_
  rw [hnt]
  simp only [baseS, eq_self, implies_true, if_true, if_false, reduceIte, Nat.reduceBEq, Nat.reduceEqDiff, Nat.reduceLT, Nat.reduceAdd, reduceCtorEq, tyInts, tdInts, tyHull, tdHull, c_spec_HullValid, c_spec_SlotMany, decide_false, room, Nat.reduceLeDiff, Nat.zero_le, storeAV, rowQ, ownInts, FT.of, FT.setf, elems, appAV_I, appI, srcI, ownI, anyI, sameR, appAV_P, appP, srcP, ownP, anyP]
  repeat (refine And.intro ?_ ?_; focus (first | exact ordP (by kernel_rfl) | with_reducible exact rfl | assumption | trivial | (simp only [inR]; omega) | omega | (intro hh; (try obtain ⟨hh1, hh2⟩ := hh); (repeat' apply And.intro) <;> first | assumption | (simp only [inR]; omega) | omega | (intros; (repeat' apply And.intro) <;> first | assumption | (simp only [inR]; omega) | omega)) | (intros; (repeat' apply And.intro) <;> first | assumption | (simp only [inR]; omega) | omega | (simp_all; done) | (simp_all [inR]; omega))))
  refine hK1 _ ?_
  clear hK1
  refine W_seq (fun K2 hK2 => ?_)
  refine W_seq (fun K3 hK3 => ?_)
  refine W_region hT hG [] [1, 5] ?_
  rw [hnt]
  simp only [baseS, eq_self, implies_true, if_true, if_false, reduceIte, Nat.reduceBEq, Nat.reduceEqDiff, Nat.reduceLT, Nat.reduceAdd, reduceCtorEq, tyInts, tdInts, tyHull, tdHull, c_spec_HullValid, c_spec_SlotMany, decide_false, room, Nat.reduceLeDiff, Nat.zero_le, storeAV, rowQ, ownInts, FT.of, FT.setf, elems, appAV_I, appI, srcI, ownI, anyI, sameR, appAV_P, appP, srcP, ownP, anyP]
  repeat (refine And.intro ?_ ?_; focus (first | exact ordP (by kernel_rfl) | with_reducible exact rfl | assumption | trivial | (simp only [inR]; omega) | omega | (intro hh; (try obtain ⟨hh1, hh2⟩ := hh); (repeat' apply And.intro) <;> first | assumption | (simp only [inR]; omega) | omega | (intros; (repeat' apply And.intro) <;> first | assumption | (simp only [inR]; omega) | omega)) | (intros; (repeat' apply And.intro) <;> first | assumption | (simp only [inR]; omega) | omega | (simp_all; done) | (simp_all [inR]; omega))))
  refine hK3 _ ?_
  clear hK3
  refine W_cond (b := _) rfl (fun hc4 => ?_) (fun hc4 => ?_)
  · try simp only [decide_eq_true_eq, decide_eq_false_iff_not, ne_eq, Decidable.not_not, Bool.not_eq_true', Bool.not_eq_false', Bool.or_eq_true, Bool.and_eq_true, Bool.or_eq_false_iff, Bool.and_eq_false_iff] at hc4
    refine W_seq (fun K5 hK5 => ?_)
    refine W_region hT hG [] [2] ?_
    rw [hnt]
    simp only [baseS, eq_self, implies_true, if_true, if_false, reduceIte, Nat.reduceBEq, Nat.reduceEqDiff, Nat.reduceLT, Nat.reduceAdd, reduceCtorEq, tyInts, tdInts, tyHull, tdHull, c_spec_HullValid, c_spec_SlotMany, decide_false, room, Nat.reduceLeDiff, Nat.zero_le, storeAV, rowQ, ownInts, FT.of, FT.setf, elems, appAV_I, appI, srcI, ownI, anyI, sameR, appAV_P, appP, srcP, ownP, anyP]
    repeat (refine And.intro ?_ ?_; focus (first | exact ordP (by kernel_rfl) | with_reducible exact rfl | assumption | trivial | (simp only [inR]; omega) | omega | (intro hh; (try obtain ⟨hh1, hh2⟩ := hh); (repeat' apply And.intro) <;> first | assumption | (simp only [inR]; omega) | omega | (intros; (repeat' apply And.intro) <;> first | assumption | (simp only [inR]; omega) | omega)) | (intros; (repeat' apply And.intro) <;> first | assumption | (simp only [inR]; omega) | omega | (simp_all; done) | (simp_all [inR]; omega))))
    refine hK5 _ ?_
    clear hK5
    refine W_re [(2, .own 3 .i64)] (by (try simp only [hnt, hnp]); rfl) ?_
    refine W_ret ?_
    simp only [thenQ, blockQ, loopQ, retQ, reduceIte, Nat.reduceEqDiff]
    refine ret1s 2 rfl rfl rfl ?_
    all_goals (
      first | (rw [emptyR, if_pos hc4, hm]; done) | (rw [emptyR, hc4]; rfl))
  · try simp only [decide_eq_true_eq, decide_eq_false_iff_not, ne_eq, Decidable.not_not, Bool.not_eq_true', Bool.not_eq_false', Bool.or_eq_true, Bool.and_eq_true, Bool.or_eq_false_iff, Bool.and_eq_false_iff] at hc4
    refine W_skip ?_
    simp only [thenQ, blockQ, loopQ, reduceIte, Nat.reduceEqDiff]
    refine hK2 _ ?_
    clear hK2
    refine W_seq (fun K6 hK6 => ?_)
    refine W_region hT hG [] [2] ?_
    rw [hnt]
    have hq := hbb hc4
    have hm := hmy hc4
    simp only [baseS, eq_self, implies_true, if_true, if_false, reduceIte, Nat.reduceBEq, Nat.reduceEqDiff, Nat.reduceLT, Nat.reduceAdd, reduceCtorEq, tyInts, tdInts, tyHull, tdHull, c_spec_HullValid, c_spec_SlotMany, decide_false, room, Nat.reduceLeDiff, Nat.zero_le, storeAV, rowQ, ownInts, FT.of, FT.setf, elems, appAV_I, appI, srcI, ownI, anyI, sameR, appAV_P, appP, srcP, ownP, anyP]
    repeat (refine And.intro ?_ ?_; focus (first | exact ordP (by kernel_rfl) | with_reducible exact rfl | assumption | trivial | (simp only [inR]; omega) | omega | (intro hh; (try obtain ⟨hh1, hh2⟩ := hh); (repeat' apply And.intro) <;> first | assumption | (simp only [inR]; omega) | omega | (intros; (repeat' apply And.intro) <;> first | assumption | (simp only [inR]; omega) | omega)) | (intros; (repeat' apply And.intro) <;> first | assumption | (simp only [inR]; omega) | omega | (simp_all; done) | (simp_all [inR]; omega))))
    refine hK6 _ ?_
    clear hK6
    refine W_re [(2, .own 3 .i64)] (by (try simp only [hnt, hnp]); rfl) ?_
    refine W_ret ?_
    simp only [thenQ, blockQ, loopQ, retQ, reduceIte, Nat.reduceEqDiff]
    refine ret1s 2 rfl rfl rfl ?_
    all_goals (
      first | (rw [emptyR, if_pos hc4, hm]; done) | (rw [emptyR, hc4]; rfl))

end Go.Proofs.Ytpiaeckkjdcifaa
