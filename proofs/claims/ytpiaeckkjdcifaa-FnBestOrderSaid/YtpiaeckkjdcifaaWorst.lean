/- Walks over the worst heel. No condition. -/
import Derived.Test.YtpiaeckkjdcifaaOkLoad
import Derived.Test.YtpiaeckkjdcifaaLoadB
namespace Go.Proofs.Ytpiaeckkjdcifaa
open Go
set_option linter.unusedVariables false
set_option linter.unusedSimpArgs false

/-- The heel behind the first n slots of an order, and the worst one until then. -/
def whF (r t : Int) (bs : List BoxD) (p o : List Int) : Nat → Int × Int
  | 0 => (0, 0)
  | n + 1 => ((whF r t bs p o n).1 + wAt bs (p.getD (o.getD n 0).toNat 0) * (2 * (o.getD n 0 / t % r) - (r - 1)), max (max (whF r t bs p o n).2 ((whF r t bs p o n).1 + wAt bs (p.getD (o.getD n 0).toNat 0) * (2 * (o.getD n 0 / t % r) - (r - 1)))) (-((whF r t bs p o n).1 + wAt bs (p.getD (o.getD n 0).toNat 0) * (2 * (o.getD n 0 / t % r) - (r - 1)))))
theorem whF_step {r t : Int} {bs : List BoxD} {p o : List Int} {i : Int} (h : 0 ≤ i) : whF r t bs p o (i + 1).toNat = ((whF r t bs p o i.toNat).1 + wAt bs (p.getD (o.getD i.toNat 0).toNat 0) * (2 * (o.getD i.toNat 0 / t % r) - (r - 1)), max (max (whF r t bs p o i.toNat).2 ((whF r t bs p o i.toNat).1 + wAt bs (p.getD (o.getD i.toNat 0).toNat 0) * (2 * (o.getD i.toNat 0 / t % r) - (r - 1)))) (-((whF r t bs p o i.toNat).1 + wAt bs (p.getD (o.getD i.toNat 0).toNat 0) * (2 * (o.getD i.toNat 0 / t % r) - (r - 1))))) := by
  have e : (i + 1).toNat = i.toNat + 1 := by omega
  rw [e]; rfl
def worstR (b r t : Int) (bs : List BoxD) (p o : List Int) : Int := if loadB b r t bs p o = true then (whF r t bs p o o.length).2 else -1
theorem load_ok {b r t : Int} {bs : List BoxD} {p o : List Int} (h : loadB b r t bs p o = true) : PlanOK b r t bs p := by
  simp only [loadB, Bool.and_eq_true] at h
  exact planB_ok h.1.1
theorem load_len {b r t : Int} {bs : List BoxD} {p o : List Int} (h : loadB b r t bs p o = true) : o.length ≤ 36 := by
  have hok := load_ok h
  have := hok.le
  simp only [loadB, Bool.and_eq_true, decide_eq_true_eq] at h
  have h2 := selTo_len (fullP p) p.length
  have := h.1.2
  rw [fullS] at this
  omega
theorem load_get {b r t : Int} {bs : List BoxD} {p o : List Int} {i : Int} (h : loadB b r t bs p o = true) (h0 : 0 ≤ i) (h1 : i < o.length) : 0 ≤ o.getD i.toNat 0 ∧ o.getD i.toNat 0 < p.length := by
  simp only [loadB, Bool.and_eq_true, List.all_eq_true] at h
  have := h.2 i.toNat (List.mem_range.2 (by omega))
  simp only [ordB, Bool.and_eq_true, decide_eq_true_eq] at this
  have := this.1.1.1
  omega

def c_impl_WorstHeel : Ctr where
  modes := [.v .p, .v (.r .box), .v (.r .i64), .v (.r .i64)]
  al := false
  run := fun xs os => match xs, os with
    | [.agg [.int b, .int r, .int t], .rs .box bs, .rs .i64 p, .rs .i64 o], [] => some ⟨(bs.length ≤ 9223372036854775807 ∧ p.length ≤ 9223372036854775807) ∧ o.length ≤ 9223372036854775807, .int (worstR b r t bs p o), [], []⟩
    | _, _ => none
theorem m_impl_WorstHeel : Meets Try.prog 53 c_impl_WorstHeel := by
  refine meets_of (T := tyT) tyOK Try.func53 (by rfl) rfl (by decide) ?_
  intro args owns R hrun hpre
  simp only [c_impl_WorstHeel] at hrun
  split at hrun
  case h_2 => cases hrun
  rename_i b r t bs p o
  cases hrun
  try dsimp only at hpre
  refine ⟨_, rfl, fun E hP hnt hnp => ?_⟩
  replace hnt : E.nt = 44 := hnt
  replace hnp : E.np = 4 := hnp
  have hT : ∀ t d, tyT t = some d → TyOK E.P t d := hP ▸ tyOK
  have hG : ∀ f C, Γof [(41, c_impl_LoadOk), (95, c_impl_weightAt), (96, c_impl_Hull_heelArm)] f = some C → Meets E.P f C := hΓof (by rw [hP]; exact ⟨m_impl_LoadOk, m_impl_weightAt, m_impl_Hull_heelArm, trivial⟩)
  try simp only [show Try.f53.ntmps = 44 from rfl]
  have hbs := hpre.1.1
  have hp := hpre.1.2
  have ho := hpre.2
  refine W_seq (fun K1 hK1 => ?_)
  refine W_region hT hG [] [1, 2, 3, 4] ?_
  rw [hnt]
  simp only [baseS, eq_self, implies_true, if_true, if_false, reduceIte, Nat.reduceBEq, Nat.reduceEqDiff, Nat.reduceLT, Nat.reduceAdd, reduceCtorEq, tyInt, tdInt, tyInts, tdInts, tyHull, tdHull, tyBoxes, tdBoxes, c_impl_LoadOk, c_impl_weightAt, c_impl_Hull_heelArm, maxAV]
  repeat (refine And.intro ?_ ?_; focus (first | exact ordP (by kernel_rfl) | with_reducible exact rfl | assumption | trivial | (simp only [inR]; omega) | omega | exact ⟨by omega, by omega⟩ | exact ⟨by omega, by omega, by omega⟩ | exact ⟨by omega, hok.inb _⟩ | exact ⟨by omega, ⟨by omega, by omega⟩, hok.inb _⟩ | exact ⟨⟨by omega, by omega⟩, by omega⟩ | ((try simp only [decide_eq_true_eq, Bool.and_eq_true, ne_eq, decide_not, Bool.not_eq_true', Bool.not_eq_false', Bool.or_eq_false_iff, Bool.not_not, decide_eq_false_iff_not]); (try intro hh); (repeat' apply And.intro) <;> (first | omega | (simp only [inR]; omega) | assumption | exact ⟨by omega, hok.inb _⟩ | exact ⟨by omega, ⟨by omega, by omega⟩, hok.inb _⟩ | exact ⟨⟨by omega, by omega⟩, by omega⟩ | exact hh.1 | exact hh.2 | exact hh.2.1 | exact hh.2.2 | exact hh.1.1 | exact hh.1.2 | (intro hq; exact ⟨hh, hq⟩) | (intro hq; exact ⟨hh.1, hq⟩) | (simp_all; done)))))
  refine hK1 _ ?_
  clear hK1
  refine W_seq (fun K2 hK2 => ?_)
  refine W_seq (fun K3 hK3 => ?_)
  refine W_region hT hG [] [1, 2, 3, 4, 18] ?_
  rw [hnt]
  simp only [baseS, eq_self, implies_true, if_true, if_false, reduceIte, Nat.reduceBEq, Nat.reduceEqDiff, Nat.reduceLT, Nat.reduceAdd, reduceCtorEq, tyInt, tdInt, tyInts, tdInts, tyHull, tdHull, tyBoxes, tdBoxes, c_impl_LoadOk, c_impl_weightAt, c_impl_Hull_heelArm, maxAV]
  repeat (refine And.intro ?_ ?_; focus (first | exact ordP (by kernel_rfl) | with_reducible exact rfl | assumption | trivial | (simp only [inR]; omega) | omega | exact ⟨by omega, by omega⟩ | exact ⟨by omega, by omega, by omega⟩ | exact ⟨by omega, hok.inb _⟩ | exact ⟨by omega, ⟨by omega, by omega⟩, hok.inb _⟩ | exact ⟨⟨by omega, by omega⟩, by omega⟩ | ((try simp only [decide_eq_true_eq, Bool.and_eq_true, ne_eq, decide_not, Bool.not_eq_true', Bool.not_eq_false', Bool.or_eq_false_iff, Bool.not_not, decide_eq_false_iff_not]); (try intro hh); (repeat' apply And.intro) <;> (first | omega | (simp only [inR]; omega) | assumption | exact ⟨by omega, hok.inb _⟩ | exact ⟨by omega, ⟨by omega, by omega⟩, hok.inb _⟩ | exact ⟨⟨by omega, by omega⟩, by omega⟩ | exact hh.1 | exact hh.2 | exact hh.2.1 | exact hh.2.2 | exact hh.1.1 | exact hh.1.2 | (intro hq; exact ⟨hh, hq⟩) | (intro hq; exact ⟨hh.1, hq⟩) | (simp_all; done)))))
  refine hK3 _ ?_
  clear hK3
  refine W_cond (b := _) rfl (fun hc4 => ?_) (fun hc4 => ?_)
  · try simp only [decide_eq_true_eq, decide_eq_false_iff_not, ne_eq, Decidable.not_not, Bool.not_eq_true', Bool.not_eq_false', Bool.or_eq_true, Bool.and_eq_true, Bool.or_eq_false_iff, Bool.and_eq_false_iff] at hc4
    refine W_seq (fun K5 hK5 => ?_)
    refine W_region hT hG [] [8] ?_
    rw [hnt]
    simp only [baseS, eq_self, implies_true, if_true, if_false, reduceIte, Nat.reduceBEq, Nat.reduceEqDiff, Nat.reduceLT, Nat.reduceAdd, reduceCtorEq, tyInt, tdInt, tyInts, tdInts, tyHull, tdHull, tyBoxes, tdBoxes, c_impl_LoadOk, c_impl_weightAt, c_impl_Hull_heelArm, maxAV]
    repeat (refine And.intro ?_ ?_; focus (first | exact ordP (by kernel_rfl) | with_reducible exact rfl | assumption | trivial | (simp only [inR]; omega) | omega | exact ⟨by omega, by omega⟩ | exact ⟨by omega, by omega, by omega⟩ | exact ⟨by omega, hok.inb _⟩ | exact ⟨by omega, ⟨by omega, by omega⟩, hok.inb _⟩ | exact ⟨⟨by omega, by omega⟩, by omega⟩ | ((try simp only [decide_eq_true_eq, Bool.and_eq_true, ne_eq, decide_not, Bool.not_eq_true', Bool.not_eq_false', Bool.or_eq_false_iff, Bool.not_not, decide_eq_false_iff_not]); (try intro hh); (repeat' apply And.intro) <;> (first | omega | (simp only [inR]; omega) | assumption | exact ⟨by omega, hok.inb _⟩ | exact ⟨by omega, ⟨by omega, by omega⟩, hok.inb _⟩ | exact ⟨⟨by omega, by omega⟩, by omega⟩ | exact hh.1 | exact hh.2 | exact hh.2.1 | exact hh.2.2 | exact hh.1.1 | exact hh.1.2 | (intro hq; exact ⟨hh, hq⟩) | (intro hq; exact ⟨hh.1, hq⟩) | (simp_all; done)))))
    refine hK5 _ ?_
    clear hK5
    refine W_ret ?_
    simp only [thenQ, blockQ, loopQ, retQ, reduceIte, Nat.reduceEqDiff]
    refine ret0 ?_ rfl rfl (.inr rfl) rfl
    simp only [show Try.f53.results.toList = [ResultVar.tmp 8] from rfl, resAV, resL, look, Nat.reduceEqDiff, reduceIte, tyHull, tdHull, applyUps, noH, isStr, List.length_cons, List.length_nil, Nat.reduceAdd, and_self]
    all_goals (
      refine congrArg (fun x => some (AV.int x)) ?_
      first | (rw [worstR, if_pos hc4, ← show i.toNat = o.length by omega, ← hI]; done) | (rw [worstR, hc4]; rfl))
  · try simp only [decide_eq_true_eq, decide_eq_false_iff_not, ne_eq, Decidable.not_not, Bool.not_eq_true', Bool.not_eq_false', Bool.or_eq_true, Bool.and_eq_true, Bool.or_eq_false_iff, Bool.and_eq_false_iff] at hc4
    refine W_skip ?_
    simp only [thenQ, blockQ, loopQ, reduceIte, Nat.reduceEqDiff]
    refine hK2 _ ?_
    clear hK2
    refine W_seq (fun K6 hK6 => ?_)
    refine W_region hT hG [] [1, 2, 3, 4, 9, 10] ?_
    rw [hnt]
    simp only [baseS, eq_self, implies_true, if_true, if_false, reduceIte, Nat.reduceBEq, Nat.reduceEqDiff, Nat.reduceLT, Nat.reduceAdd, reduceCtorEq, tyInt, tdInt, tyInts, tdInts, tyHull, tdHull, tyBoxes, tdBoxes, c_impl_LoadOk, c_impl_weightAt, c_impl_Hull_heelArm, maxAV]
    repeat (refine And.intro ?_ ?_; focus (first | exact ordP (by kernel_rfl) | with_reducible exact rfl | assumption | trivial | (simp only [inR]; omega) | omega | exact ⟨by omega, by omega⟩ | exact ⟨by omega, by omega, by omega⟩ | exact ⟨by omega, hok.inb _⟩ | exact ⟨by omega, ⟨by omega, by omega⟩, hok.inb _⟩ | exact ⟨⟨by omega, by omega⟩, by omega⟩ | ((try simp only [decide_eq_true_eq, Bool.and_eq_true, ne_eq, decide_not, Bool.not_eq_true', Bool.not_eq_false', Bool.or_eq_false_iff, Bool.not_not, decide_eq_false_iff_not]); (try intro hh); (repeat' apply And.intro) <;> (first | omega | (simp only [inR]; omega) | assumption | exact ⟨by omega, hok.inb _⟩ | exact ⟨by omega, ⟨by omega, by omega⟩, hok.inb _⟩ | exact ⟨⟨by omega, by omega⟩, by omega⟩ | exact hh.1 | exact hh.2 | exact hh.2.1 | exact hh.2.2 | exact hh.1.1 | exact hh.1.2 | (intro hq; exact ⟨hh, hq⟩) | (intro hq; exact ⟨hh.1, hq⟩) | (simp_all; done)))))
    refine hK6 _ ?_
    clear hK6
    refine W_seq (fun K7 hK7 => ?_)
    refine W_seq (fun K8 hK8 => ?_)
    refine W_region hT hG [] [1, 2, 4, 9, 10, 19, 20, 21] ?_
    rw [hnt]
    simp only [baseS, eq_self, implies_true, if_true, if_false, reduceIte, Nat.reduceBEq, Nat.reduceEqDiff, Nat.reduceLT, Nat.reduceAdd, reduceCtorEq, tyInt, tdInt, tyInts, tdInts, tyHull, tdHull, tyBoxes, tdBoxes, c_impl_LoadOk, c_impl_weightAt, c_impl_Hull_heelArm, maxAV]
    repeat (refine And.intro ?_ ?_; focus (first | exact ordP (by kernel_rfl) | with_reducible exact rfl | assumption | trivial | (simp only [inR]; omega) | omega | exact ⟨by omega, by omega⟩ | exact ⟨by omega, by omega, by omega⟩ | exact ⟨by omega, hok.inb _⟩ | exact ⟨by omega, ⟨by omega, by omega⟩, hok.inb _⟩ | exact ⟨⟨by omega, by omega⟩, by omega⟩ | ((try simp only [decide_eq_true_eq, Bool.and_eq_true, ne_eq, decide_not, Bool.not_eq_true', Bool.not_eq_false', Bool.or_eq_false_iff, Bool.not_not, decide_eq_false_iff_not]); (try intro hh); (repeat' apply And.intro) <;> (first | omega | (simp only [inR]; omega) | assumption | exact ⟨by omega, hok.inb _⟩ | exact ⟨by omega, ⟨by omega, by omega⟩, hok.inb _⟩ | exact ⟨⟨by omega, by omega⟩, by omega⟩ | exact hh.1 | exact hh.2 | exact hh.2.1 | exact hh.2.2 | exact hh.1.1 | exact hh.1.2 | (intro hq; exact ⟨hh, hq⟩) | (intro hq; exact ⟨hh.1, hq⟩) | (simp_all; done)))))
    refine hK8 _ ?_
    clear hK8
    refine W_block ?_
    refine W_loop (α := Int × Int × Int) [(1, .as), (2, .as), (4, .as), (9, .as), (10, .as), (19, .as), (20, .as), (21, .as)] (fun x => ⟨[(1, .rs .box bs), (2, .rs .i64 p), (4, .rp [.int b, .int r, .int t]), (9, .int x.2.2), (10, .int x.2.1), (19, .rs .i64 o), (20, .int o.length), (21, .int x.1)], [], 44⟩) (fun x => 0 ≤ x.1 ∧ x.1 ≤ o.length ∧ (-(60 * x.1) ≤ x.2.1 ∧ x.2.1 ≤ 60 * x.1) ∧ (0 ≤ x.2.2 ∧ x.2.2 ≤ 60 * x.1) ∧ x.2 = whF r t bs p o x.1.toNat) (fun x => (o.length - x.1).toNat) (0, 0, 0) ?_ ?_ ?_
    · (try simp only [hnt, hnp]); rfl
    · exact ⟨by omega, by omega, by dsimp only; omega, by dsimp only; omega, rfl⟩
    rintro ⟨i, hl, ws⟩ ⟨hi0, hi1, hA, hW, hI⟩
    dsimp only at hi0 hi1 hA hW hI ⊢
    have hok := load_ok hc4
    have hle := hok.le
    have hol := load_len hc4
    have hget := fun h => @load_get b r t bs p o i hc4 hi0 h
    have ha := fun h => arm_box hok (i := o.getD i.toNat 0) (hget h).1 (hget h).2
    have hw := wAt_le hok.boxes (hok.inb (o.getD i.toNat 0).toNat)
    have hst := whF_step (r := r) (t := t) (bs := bs) (p := p) (o := o) hi0
    rw [← hI] at hst
    dsimp only at hst
    refine W_seq (fun K10 hK10 => ?_)
    refine W_region hT hG [] [1, 2, 4, 9, 10, 19, 20, 21, 22] ?_
    rw [hnt]
    simp only [baseS, eq_self, implies_true, if_true, if_false, reduceIte, Nat.reduceBEq, Nat.reduceEqDiff, Nat.reduceLT, Nat.reduceAdd, reduceCtorEq, tyInt, tdInt, tyInts, tdInts, tyHull, tdHull, tyBoxes, tdBoxes, c_impl_LoadOk, c_impl_weightAt, c_impl_Hull_heelArm, maxAV]
    repeat (refine And.intro ?_ ?_; focus (first | exact ordP (by kernel_rfl) | with_reducible exact rfl | assumption | trivial | (simp only [inR]; omega) | omega | exact ⟨by omega, by omega⟩ | exact ⟨by omega, by omega, by omega⟩ | exact ⟨by omega, hok.inb _⟩ | exact ⟨by omega, ⟨by omega, by omega⟩, hok.inb _⟩ | exact ⟨⟨by omega, by omega⟩, by omega⟩ | ((try simp only [decide_eq_true_eq, Bool.and_eq_true, ne_eq, decide_not, Bool.not_eq_true', Bool.not_eq_false', Bool.or_eq_false_iff, Bool.not_not, decide_eq_false_iff_not]); (try intro hh); (repeat' apply And.intro) <;> (first | omega | (simp only [inR]; omega) | assumption | exact ⟨by omega, hok.inb _⟩ | exact ⟨by omega, ⟨by omega, by omega⟩, hok.inb _⟩ | exact ⟨⟨by omega, by omega⟩, by omega⟩ | exact hh.1 | exact hh.2 | exact hh.2.1 | exact hh.2.2 | exact hh.1.1 | exact hh.1.2 | (intro hq; exact ⟨hh, hq⟩) | (intro hq; exact ⟨hh.1, hq⟩) | (simp_all; done)))))
    refine hK10 _ ?_
    clear hK10
    refine W_seq (fun K11 hK11 => ?_)
    refine W_cond (b := _) rfl (fun hc12 => ?_) (fun hc12 => ?_)
    · try simp only [decide_eq_true_eq, decide_eq_false_iff_not, ne_eq, Decidable.not_not, Bool.not_eq_true', Bool.not_eq_false', Bool.or_eq_true, Bool.and_eq_true, Bool.or_eq_false_iff, Bool.and_eq_false_iff] at hc12
      refine W_skip ?_
      simp only [thenQ, blockQ, loopQ, reduceIte, Nat.reduceEqDiff]
      refine hK11 _ ?_
      clear hK11
      refine W_seq (fun K13 hK13 => ?_)
      refine W_block ?_
      refine W_seq (fun K14 hK14 => ?_)
      refine W_region hT hG [] [1, 2, 4, 9, 10, 12, 19, 20, 21] ?_
      rw [hnt]
      simp only [baseS, eq_self, implies_true, if_true, if_false, reduceIte, Nat.reduceBEq, Nat.reduceEqDiff, Nat.reduceLT, Nat.reduceAdd, reduceCtorEq, tyInt, tdInt, tyInts, tdInts, tyHull, tdHull, tyBoxes, tdBoxes, c_impl_LoadOk, c_impl_weightAt, c_impl_Hull_heelArm, maxAV]
      repeat (refine And.intro ?_ ?_; focus (first | exact ordP (by kernel_rfl) | with_reducible exact rfl | assumption | trivial | (simp only [inR]; omega) | omega | exact ⟨by omega, by omega⟩ | exact ⟨by omega, by omega, by omega⟩ | exact ⟨by omega, hok.inb _⟩ | exact ⟨by omega, ⟨by omega, by omega⟩, hok.inb _⟩ | exact ⟨⟨by omega, by omega⟩, by omega⟩ | ((try simp only [decide_eq_true_eq, Bool.and_eq_true, ne_eq, decide_not, Bool.not_eq_true', Bool.not_eq_false', Bool.or_eq_false_iff, Bool.not_not, decide_eq_false_iff_not]); (try intro hh); (repeat' apply And.intro) <;> (first | omega | (simp only [inR]; omega) | assumption | exact ⟨by omega, hok.inb _⟩ | exact ⟨by omega, ⟨by omega, by omega⟩, hok.inb _⟩ | exact ⟨⟨by omega, by omega⟩, by omega⟩ | exact hh.1 | exact hh.2 | exact hh.2.1 | exact hh.2.2 | exact hh.1.1 | exact hh.1.2 | (intro hq; exact ⟨hh, hq⟩) | (intro hq; exact ⟨hh.1, hq⟩) | (simp_all; done)))))
      refine hK14 _ ?_
      clear hK14
      refine W_seq (fun K15 hK15 => ?_)
      refine W_region_draw hT hG (by rw [hP]; exact draws_ok) [] [1, 2, 4, 9, 10, 19, 20, 21] ?_
      rw [hnt]
      have hget1 := hget hc12
      have ha1 := ha hc12
      simp only [baseS, eq_self, implies_true, if_true, if_false, reduceIte, Nat.reduceBEq, Nat.reduceEqDiff, Nat.reduceLT, Nat.reduceAdd, reduceCtorEq, tyInt, tdInt, tyInts, tdInts, tyHull, tdHull, tyBoxes, tdBoxes, c_impl_LoadOk, c_impl_weightAt, c_impl_Hull_heelArm, maxAV]
      repeat (refine And.intro ?_ ?_; focus (first | exact ordP (by kernel_rfl) | with_reducible exact rfl | assumption | trivial | (simp only [inR]; omega) | omega | exact ⟨by omega, by omega⟩ | exact ⟨by omega, by omega, by omega⟩ | exact ⟨by omega, hok.inb _⟩ | exact ⟨by omega, ⟨by omega, by omega⟩, hok.inb _⟩ | exact ⟨⟨by omega, by omega⟩, by omega⟩ | ((try simp only [decide_eq_true_eq, Bool.and_eq_true, ne_eq, decide_not, Bool.not_eq_true', Bool.not_eq_false', Bool.or_eq_false_iff, Bool.not_not, decide_eq_false_iff_not]); (try intro hh); (repeat' apply And.intro) <;> (first | omega | (simp only [inR]; omega) | assumption | exact ⟨by omega, hok.inb _⟩ | exact ⟨by omega, ⟨by omega, by omega⟩, hok.inb _⟩ | exact ⟨⟨by omega, by omega⟩, by omega⟩ | exact hh.1 | exact hh.2 | exact hh.2.1 | exact hh.2.2 | exact hh.1.1 | exact hh.1.2 | (intro hq; exact ⟨hh, hq⟩) | (intro hq; exact ⟨hh.1, hq⟩) | (simp_all; done)))))
      refine hK15 _ ?_
      clear hK15
      refine W_region hT hG [] [1, 2, 4, 9, 10, 19, 20, 21] ?_
      rw [hnt]
      have hget1 := hget hc12
      have ha1 := ha hc12
      simp only [baseS, eq_self, implies_true, if_true, if_false, reduceIte, Nat.reduceBEq, Nat.reduceEqDiff, Nat.reduceLT, Nat.reduceAdd, reduceCtorEq, tyInt, tdInt, tyInts, tdInts, tyHull, tdHull, tyBoxes, tdBoxes, c_impl_LoadOk, c_impl_weightAt, c_impl_Hull_heelArm, maxAV]
      repeat (refine And.intro ?_ ?_; focus (first | exact ordP (by kernel_rfl) | with_reducible exact rfl | assumption | trivial | (simp only [inR]; omega) | omega | exact ⟨by omega, by omega⟩ | exact ⟨by omega, by omega, by omega⟩ | exact ⟨by omega, hok.inb _⟩ | exact ⟨by omega, ⟨by omega, by omega⟩, hok.inb _⟩ | exact ⟨⟨by omega, by omega⟩, by omega⟩ | ((try simp only [decide_eq_true_eq, Bool.and_eq_true, ne_eq, decide_not, Bool.not_eq_true', Bool.not_eq_false', Bool.or_eq_false_iff, Bool.not_not, decide_eq_false_iff_not]); (try intro hh); (repeat' apply And.intro) <;> (first | omega | (simp only [inR]; omega) | assumption | exact ⟨by omega, hok.inb _⟩ | exact ⟨by omega, ⟨by omega, by omega⟩, hok.inb _⟩ | exact ⟨⟨by omega, by omega⟩, by omega⟩ | exact hh.1 | exact hh.2 | exact hh.2.1 | exact hh.2.2 | exact hh.1.1 | exact hh.1.2 | (intro hq; exact ⟨hh, hq⟩) | (intro hq; exact ⟨hh.1, hq⟩) | (simp_all; done)))))
      refine hK13 _ ?_
      clear hK13
      refine W_region hT hG [] [1, 2, 4, 9, 10, 19, 20, 21] ?_
      rw [hnt]
      simp only [baseS, eq_self, implies_true, if_true, if_false, reduceIte, Nat.reduceBEq, Nat.reduceEqDiff, Nat.reduceLT, Nat.reduceAdd, reduceCtorEq, tyInt, tdInt, tyInts, tdInts, tyHull, tdHull, tyBoxes, tdBoxes, c_impl_LoadOk, c_impl_weightAt, c_impl_Hull_heelArm, maxAV]
      repeat (refine And.intro ?_ ?_; focus (first | exact ordP (by kernel_rfl) | with_reducible exact rfl | assumption | trivial | (simp only [inR]; omega) | omega | exact ⟨by omega, by omega⟩ | exact ⟨by omega, by omega, by omega⟩ | exact ⟨by omega, hok.inb _⟩ | exact ⟨by omega, ⟨by omega, by omega⟩, hok.inb _⟩ | exact ⟨⟨by omega, by omega⟩, by omega⟩ | ((try simp only [decide_eq_true_eq, Bool.and_eq_true, ne_eq, decide_not, Bool.not_eq_true', Bool.not_eq_false', Bool.or_eq_false_iff, Bool.not_not, decide_eq_false_iff_not]); (try intro hh); (repeat' apply And.intro) <;> (first | omega | (simp only [inR]; omega) | assumption | exact ⟨by omega, hok.inb _⟩ | exact ⟨by omega, ⟨by omega, by omega⟩, hok.inb _⟩ | exact ⟨⟨by omega, by omega⟩, by omega⟩ | exact hh.1 | exact hh.2 | exact hh.2.1 | exact hh.2.2 | exact hh.1.1 | exact hh.1.2 | (intro hq; exact ⟨hh, hq⟩) | (intro hq; exact ⟨hh.1, hq⟩) | (simp_all; done)))))
      have ha1 := ha hc12
      refine ⟨(i + 1, _, _), (by (try simp only [hnt, hnp]); rfl), ⟨by dsimp only; omega, by dsimp only; omega, by dsimp only; omega, by dsimp only; omega, by dsimp only; rw [hst]⟩, by dsimp only; omega⟩
    · try simp only [decide_eq_true_eq, decide_eq_false_iff_not, ne_eq, Decidable.not_not, Bool.not_eq_true', Bool.not_eq_false', Bool.or_eq_true, Bool.and_eq_true, Bool.or_eq_false_iff, Bool.and_eq_false_iff] at hc12
      refine W_exit ?_
      simp only [thenQ, blockQ, loopQ, reduceIte, Nat.reduceEqDiff]
      refine hK7 _ ?_
      clear hK7
      refine W_seq (fun K16 hK16 => ?_)
      refine W_region hT hG [] [8] ?_
      rw [hnt]
      simp only [baseS, eq_self, implies_true, if_true, if_false, reduceIte, Nat.reduceBEq, Nat.reduceEqDiff, Nat.reduceLT, Nat.reduceAdd, reduceCtorEq, tyInt, tdInt, tyInts, tdInts, tyHull, tdHull, tyBoxes, tdBoxes, c_impl_LoadOk, c_impl_weightAt, c_impl_Hull_heelArm, maxAV]
      repeat (refine And.intro ?_ ?_; focus (first | exact ordP (by kernel_rfl) | with_reducible exact rfl | assumption | trivial | (simp only [inR]; omega) | omega | exact ⟨by omega, by omega⟩ | exact ⟨by omega, by omega, by omega⟩ | exact ⟨by omega, hok.inb _⟩ | exact ⟨by omega, ⟨by omega, by omega⟩, hok.inb _⟩ | exact ⟨⟨by omega, by omega⟩, by omega⟩ | ((try simp only [decide_eq_true_eq, Bool.and_eq_true, ne_eq, decide_not, Bool.not_eq_true', Bool.not_eq_false', Bool.or_eq_false_iff, Bool.not_not, decide_eq_false_iff_not]); (try intro hh); (repeat' apply And.intro) <;> (first | omega | (simp only [inR]; omega) | assumption | exact ⟨by omega, hok.inb _⟩ | exact ⟨by omega, ⟨by omega, by omega⟩, hok.inb _⟩ | exact ⟨⟨by omega, by omega⟩, by omega⟩ | exact hh.1 | exact hh.2 | exact hh.2.1 | exact hh.2.2 | exact hh.1.1 | exact hh.1.2 | (intro hq; exact ⟨hh, hq⟩) | (intro hq; exact ⟨hh.1, hq⟩) | (simp_all; done)))))
      refine hK16 _ ?_
      clear hK16
      refine W_ret ?_
      simp only [thenQ, blockQ, loopQ, retQ, reduceIte, Nat.reduceEqDiff]
      refine ret0 ?_ rfl rfl (.inr rfl) rfl
      simp only [show Try.f53.results.toList = [ResultVar.tmp 8] from rfl, resAV, resL, look, Nat.reduceEqDiff, reduceIte, tyHull, tdHull, applyUps, noH, isStr, List.length_cons, List.length_nil, Nat.reduceAdd, and_self]
      all_goals (
        refine congrArg (fun x => some (AV.int x)) ?_
        first | (rw [worstR, if_pos hc4, ← show i.toNat = o.length by omega, ← hI]; done) | (rw [worstR, hc12]; rfl))

end Go.Proofs.Ytpiaeckkjdcifaa
