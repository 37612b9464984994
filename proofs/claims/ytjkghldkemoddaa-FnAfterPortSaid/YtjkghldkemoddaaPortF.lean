/- The port of a box, and what is moved at a port. No condition. -/
import Derived.Test.YtjkghldkemoddaaPlanX
import Derived.Test.YtjkghldkemoddaaPortA
namespace Go.Proofs.Ytjkghldkemoddaa
open Go
set_option linter.unusedVariables false
set_option linter.unusedSimpArgs false

/-- The port of a box; -1 for none. -/
def portF (bs : List BoxD) (n : Int) : Int := if findF bs n 0 < 0 then -1 else pAt bs n
theorem port_of {b r t : Int} {bs : List BoxD} {p : List Int} (h : PlanOK b r t bs p) {k : Nat} (h0 : p.getD k 0 ≠ 0) : portF bs (p.getD k 0) = pAt bs (p.getD k 0) ∧ 0 ≤ pAt bs (p.getD k 0) ∧ pAt bs (p.getD k 0) ≤ 6 := by
  have h1 := (h.inb k).resolve_left h0
  refine ⟨by rw [portF, if_neg (by omega)], ?_⟩
  have h2 := findF_lt h1
  have := boxB_le ((boxesB_get h.boxes).2 (findF bs (p.getD k 0) 0).toNat (by omega))
  exact this.2.2.2
theorem plan_pos {b r t : Int} {bs : List BoxD} {p : List Int} (h : PlanOK b r t bs p) (k : Nat) : p.getD k 0 ≠ 0 ↔ 0 < p.getD k 0 := by
  constructor
  · intro h0; have := h.box h0; omega
  · intro h0; omega
theorem sum_no {P : Nat → Bool} : ∀ n : Nat, sumTo (fun k => if P k = true then 1 else 0) n = 0 → ∀ k, k < n → P k = false
  | 0, _, k, hk => by omega
  | n + 1, h, k, hk => by
    have h1 : ∀ m : Nat, 0 ≤ sumTo (fun k => if P k = true then 1 else 0) m := fun m => by
      induction m with
      | zero => exact Int.le_refl _
      | succ m ih => rw [sumTo]; split <;> omega
    have h2 := h1 n
    rw [sumTo] at h
    by_cases e : P n = true
    · rw [if_pos e] at h; omega
    · rw [if_neg e] at h
      by_cases e2 : k = n
      · rw [e2]; simpa using e
      · exact sum_no n (by omega) k (by omega)
theorem low_in {b r t : Int} {bs : List BoxD} {p : List Int} (h : PlanOK b r t bs p) {i lst : Int} (h0 : 0 ≤ i) (hI : ∀ k : Nat, (k : Int) < i → p.getD k 0 ≠ 0 → lst ≤ pAt bs (p.getD k 0)) :
    (0 < p.getD i.toNat 0 → ∀ k : Nat, (k : Int) < i + 1 → p.getD k 0 ≠ 0 → min lst (portF bs (p.getD i.toNat 0)) ≤ pAt bs (p.getD k 0)) ∧ (¬ 0 < p.getD i.toNat 0 → ∀ k : Nat, (k : Int) < i + 1 → p.getD k 0 ≠ 0 → lst ≤ pAt bs (p.getD k 0)) := by
  constructor
  · intro h1 k hk hz
    by_cases e : (k : Int) < i
    · have := hI k e hz; omega
    · have e2 : i.toNat = k := by omega
      rw [e2]
      have := (port_of h hz).1
      omega
  · intro h1 k hk hz
    by_cases e : (k : Int) < i
    · exact hI k e hz
    · have e2 : i.toNat = k := by omega
      rw [e2] at h1
      exact absurd ((plan_pos h k).1 hz) h1
theorem off_self {b r t : Int} {bs : List BoxD} {p : List Int} {port : Int} (h : planB b r t bs p = true) (hp : 0 ≤ port ∧ port ≤ 6) {i : Int} (hi : 0 ≤ i ∧ i < p.length) (h0 : 0 < p.getD i.toNat 0) (hq : portF bs (p.getD i.toNat 0) = port) : i ∈ offR b r t bs p port := by
  have hok := planB_ok h
  have hz : p.getD i.toNat 0 ≠ 0 := by omega
  rw [offR, if_pos ⟨h, hp⟩]
  refine selTo_mem.2 ⟨i.toNat, by omega, by omega, ?_⟩
  rw [offB, Bool.and_eq_true, decide_eq_true_eq, List.any_eq_true]
  refine ⟨hz, i.toNat, List.mem_range.2 (by omega), ?_⟩
  simp only [lowB, Bool.and_eq_true, decide_eq_true_eq]
  exact ⟨⟨trivial, hz⟩, by rw [← (port_of hok hz).1]; exact hq⟩
theorem off_first {b r t : Int} {bs : List BoxD} {p : List Int} {lst : Int} (h : planB b r t bs p = true) (hov : overR b r t bs p = 0) (hmin : ∀ k : Nat, (k : Int) < p.length → p.getD k 0 ≠ 0 → lst ≤ pAt bs (p.getD k 0)) {j : Int} (h0 : 0 ≤ j) (hj : j < (offR b r t bs p lst).length) :
    (0 ≤ (offR b r t bs p lst).getD j.toNat 0 ∧ (offR b r t bs p lst).getD j.toNat 0 < p.length) ∧ portF bs (p.getD ((offR b r t bs p lst).getD j.toNat 0).toNat 0) = lst := by
  have hok := planB_ok h
  have hm := getD_mem (p := offR b r t bs p lst) (j := j.toNat) (by omega)
  generalize (offR b r t bs p lst).getD j.toNat 0 = e at hm
  have hm2 : e ∈ selTo (offB t bs p lst) p.length := by
    unfold offR at hm
    split at hm
    · exact hm
    · simp at hm
  obtain ⟨k, hk, rfl, hb⟩ := selTo_mem.1 hm2
  rw [Int.toNat_natCast]
  refine ⟨⟨by omega, by omega⟩, ?_⟩
  rw [offB, Bool.and_eq_true, decide_eq_true_eq, List.any_eq_true] at hb
  obtain ⟨hz, q, hq, hlow⟩ := hb
  simp only [lowB, Bool.and_eq_true, decide_eq_true_eq] at hlow
  have hq2 := List.mem_range.1 hq
  rw [(port_of hok hz).1]
  by_cases e : q = k
  · rw [← e]; exact hlow.2
  · have hov2 : overF t bs p p.length = 0 := by rw [overR, if_pos h] at hov; exact hov
    have hno := sum_no p.length hov2 k hk
    have h1 : ¬ pAt bs (p.getD q 0) < pAt bs (p.getD k 0) := fun hlt => by
      have : overB t bs p k = true := by
        rw [overB, Bool.and_eq_true, decide_eq_true_eq, List.any_eq_true]
        refine ⟨hz, q, List.mem_range.2 (by omega), ?_⟩
        simp only [lowB, Bool.and_eq_true, decide_eq_true_eq]
        exact ⟨⟨hlow.1.1, hlow.1.2⟩, hlt⟩
      rw [hno] at this; cases this
    have h2 := hmin k (by omega) hz
    have h3 := hlow.2
    omega
theorem off_asc (b r t : Int) (bs : List BoxD) (p : List Int) (port : Int) : ascB (offR b r t bs p port) = true := by
  unfold offR; split
  · exact asc_of (selTo_asc _ _)
  · rfl

def c_laws_portOf : Ctr where
  modes := [.v (.r .box), .v .p]
  al := false
  run := fun xs os => match xs, os with
    | [.rs .box bs, .int n], [] => some ⟨bs.length ≤ 9223372036854775807, .int (portF bs n), [], []⟩
    | _, _ => none
theorem m_laws_portOf : Meets Try.prog 43 c_laws_portOf := by
  refine meets_of (T := tyT) tyOK Try.func43 (by rfl) rfl (by decide) ?_
  intro args owns R hrun hpre
  simp only [c_laws_portOf] at hrun
  split at hrun
  case h_2 => cases hrun
  rename_i bs n
  cases hrun
  try dsimp only at hpre
  refine ⟨_, rfl, fun E hP hnt hnp => ?_⟩
  replace hnt : E.nt = 24 := hnt
  replace hnp : E.np = 2 := hnp
  have hT : ∀ t d, tyT t = some d → TyOK E.P t d := hP ▸ tyOK
  have hG : ∀ f C, Γof [] f = some C → Meets E.P f C := hΓof (by rw [hP]; exact trivial)
  try simp only [show Try.f43.ntmps = 24 from rfl]
  refine W_seq (fun K1 hK1 => ?_)
  refine W_region hT hG [] [0, 1] ?_
  rw [hnt]
  simp only [baseS, eq_self, implies_true, if_true, if_false, reduceIte, Nat.reduceBEq, Nat.reduceEqDiff, Nat.reduceLT, Nat.reduceAdd, reduceCtorEq, tyInt, tdInt, tyBoxes, tdBoxes, tyBox, tdBox]
  repeat (refine And.intro ?_ ?_; focus (first | exact ordP (by kernel_rfl) | with_reducible exact rfl | assumption | trivial | (simp only [inR]; omega) | omega | (intro hh; (try obtain ⟨hh1, hh2⟩ := hh); (repeat' apply And.intro) <;> first | assumption | (simp only [inR]; omega) | omega | (intros; (repeat' apply And.intro) <;> first | assumption | (simp only [inR]; omega) | omega)) | (intros; (repeat' apply And.intro) <;> first | assumption | (simp only [inR]; omega) | omega | (simp_all; done) | (simp_all [inR]; omega))))
  refine hK1 _ ?_
  clear hK1
  refine W_seq (fun K2 hK2 => ?_)
  refine W_seq (fun K3 hK3 => ?_)
  refine W_region hT hG [] [0, 1, 5] ?_
  rw [hnt]
  simp only [baseS, eq_self, implies_true, if_true, if_false, reduceIte, Nat.reduceBEq, Nat.reduceEqDiff, Nat.reduceLT, Nat.reduceAdd, reduceCtorEq, tyInt, tdInt, tyBoxes, tdBoxes, tyBox, tdBox]
  repeat (refine And.intro ?_ ?_; focus (first | exact ordP (by kernel_rfl) | with_reducible exact rfl | assumption | trivial | (simp only [inR]; omega) | omega | (intro hh; (try obtain ⟨hh1, hh2⟩ := hh); (repeat' apply And.intro) <;> first | assumption | (simp only [inR]; omega) | omega | (intros; (repeat' apply And.intro) <;> first | assumption | (simp only [inR]; omega) | omega)) | (intros; (repeat' apply And.intro) <;> first | assumption | (simp only [inR]; omega) | omega | (simp_all; done) | (simp_all [inR]; omega))))
  refine hK3 _ ?_
  clear hK3
  refine W_block ?_
  refine W_loop (α := Int) [(0, .as), (1, .as), (5, .as)] (fun i => ⟨[(0, .rs .box bs), (1, .int n), (5, .int i)], [], 24⟩) (fun i => 0 ≤ i ∧ i ≤ bs.length ∧ findF (bs.drop i.toNat) n i = findF bs n 0) (fun i => (bs.length - i).toNat) 0 ?_ ?_ ?_
  · (try simp only [hnt, hnp]); rfl
  · exact ⟨by omega, by omega, by simp⟩
  rintro i ⟨hi0, hi1, hI⟩
  refine W_seq (fun K5 hK5 => ?_)
  refine W_seq (fun K6 hK6 => ?_)
  refine W_region hT hG [] [0, 1, 5, 9] ?_
  rw [hnt]
  simp only [baseS, eq_self, implies_true, if_true, if_false, reduceIte, Nat.reduceBEq, Nat.reduceEqDiff, Nat.reduceLT, Nat.reduceAdd, reduceCtorEq, tyInt, tdInt, tyBoxes, tdBoxes, tyBox, tdBox]
  repeat (refine And.intro ?_ ?_; focus (first | exact ordP (by kernel_rfl) | with_reducible exact rfl | assumption | trivial | (simp only [inR]; omega) | omega | (intro hh; (try obtain ⟨hh1, hh2⟩ := hh); (repeat' apply And.intro) <;> first | assumption | (simp only [inR]; omega) | omega | (intros; (repeat' apply And.intro) <;> first | assumption | (simp only [inR]; omega) | omega)) | (intros; (repeat' apply And.intro) <;> first | assumption | (simp only [inR]; omega) | omega | (simp_all; done) | (simp_all [inR]; omega))))
  refine hK6 _ ?_
  clear hK6
  refine W_cond (b := _) rfl (fun hc7 => ?_) (fun hc7 => ?_)
  · try simp only [decide_eq_true_eq, decide_eq_false_iff_not, ne_eq, Decidable.not_not, Bool.not_eq_true', Bool.not_eq_false', Bool.or_eq_true, Bool.and_eq_true, Bool.or_eq_false_iff, Bool.and_eq_false_iff] at hc7
    refine W_skip ?_
    simp only [thenQ, blockQ, loopQ, reduceIte, Nat.reduceEqDiff]
    refine hK5 _ ?_
    clear hK5
    refine W_seq (fun K8 hK8 => ?_)
    refine W_block ?_
    refine W_seq (fun K9 hK9 => ?_)
    refine W_region hT hG [] [0, 1, 5, 18] ?_
    rw [hnt]
    simp only [baseS, eq_self, implies_true, if_true, if_false, reduceIte, Nat.reduceBEq, Nat.reduceEqDiff, Nat.reduceLT, Nat.reduceAdd, reduceCtorEq, tyInt, tdInt, tyBoxes, tdBoxes, tyBox, tdBox]
    repeat (refine And.intro ?_ ?_; focus (first | exact ordP (by kernel_rfl) | with_reducible exact rfl | assumption | trivial | (simp only [inR]; omega) | omega | (intro hh; (try obtain ⟨hh1, hh2⟩ := hh); (repeat' apply And.intro) <;> first | assumption | (simp only [inR]; omega) | omega | (intros; (repeat' apply And.intro) <;> first | assumption | (simp only [inR]; omega) | omega)) | (intros; (repeat' apply And.intro) <;> first | assumption | (simp only [inR]; omega) | omega | (simp_all; done) | (simp_all [inR]; omega))))
    refine hK9 _ ?_
    clear hK9
    refine W_cond (b := _) rfl (fun hc10 => ?_) (fun hc10 => ?_)
    · try simp only [decide_eq_true_eq, decide_eq_false_iff_not, ne_eq, Decidable.not_not, Bool.not_eq_true', Bool.not_eq_false', Bool.or_eq_true, Bool.and_eq_true, Bool.or_eq_false_iff, Bool.and_eq_false_iff] at hc10
      refine W_seq (fun K11 hK11 => ?_)
      refine W_region hT hG [] [4] ?_
      rw [hnt]
      simp only [baseS, eq_self, implies_true, if_true, if_false, reduceIte, Nat.reduceBEq, Nat.reduceEqDiff, Nat.reduceLT, Nat.reduceAdd, reduceCtorEq, tyInt, tdInt, tyBoxes, tdBoxes, tyBox, tdBox]
      repeat (refine And.intro ?_ ?_; focus (first | exact ordP (by kernel_rfl) | with_reducible exact rfl | assumption | trivial | (simp only [inR]; omega) | omega | (intro hh; (try obtain ⟨hh1, hh2⟩ := hh); (repeat' apply And.intro) <;> first | assumption | (simp only [inR]; omega) | omega | (intros; (repeat' apply And.intro) <;> first | assumption | (simp only [inR]; omega) | omega)) | (intros; (repeat' apply And.intro) <;> first | assumption | (simp only [inR]; omega) | omega | (simp_all; done) | (simp_all [inR]; omega))))
      refine hK11 _ ?_
      clear hK11
      refine W_ret ?_
      simp only [thenQ, blockQ, loopQ, retQ, reduceIte, Nat.reduceEqDiff]
      refine ret0 ?_ rfl rfl (.inr rfl) rfl
      simp only [show Try.f43.results.toList = [ResultVar.tmp 4] from rfl, resAV, resL, look, Nat.reduceEqDiff, reduceIte, tyHull, tdHull, applyUps, noH, isStr, List.length_cons, List.length_nil, Nat.reduceAdd, and_self]
      all_goals (
        refine congrArg (fun x => some (AV.int x)) ?_
        first | (rw [findF_end hc10] at hI; rw [portF, ← hI]; rfl) | (rw [findF_step hi0 hc7, if_pos hc10] at hI; rw [portF, if_neg (by omega), pAt, ← hI]; done))
    · try simp only [decide_eq_true_eq, decide_eq_false_iff_not, ne_eq, Decidable.not_not, Bool.not_eq_true', Bool.not_eq_false', Bool.or_eq_true, Bool.and_eq_true, Bool.or_eq_false_iff, Bool.and_eq_false_iff] at hc10
      refine W_skip ?_
      simp only [thenQ, blockQ, loopQ, reduceIte, Nat.reduceEqDiff]
      refine hK8 _ ?_
      clear hK8
      refine W_region hT hG [] [0, 1, 5] ?_
      rw [hnt]
      simp only [baseS, eq_self, implies_true, if_true, if_false, reduceIte, Nat.reduceBEq, Nat.reduceEqDiff, Nat.reduceLT, Nat.reduceAdd, reduceCtorEq, tyInt, tdInt, tyBoxes, tdBoxes, tyBox, tdBox]
      repeat (refine And.intro ?_ ?_; focus (first | exact ordP (by kernel_rfl) | with_reducible exact rfl | assumption | trivial | (simp only [inR]; omega) | omega | (intro hh; (try obtain ⟨hh1, hh2⟩ := hh); (repeat' apply And.intro) <;> first | assumption | (simp only [inR]; omega) | omega | (intros; (repeat' apply And.intro) <;> first | assumption | (simp only [inR]; omega) | omega)) | (intros; (repeat' apply And.intro) <;> first | assumption | (simp only [inR]; omega) | omega | (simp_all; done) | (simp_all [inR]; omega))))
      refine ⟨i + 1, (by (try simp only [hnt, hnp]); rfl), ⟨by omega, by omega, by rw [findF_step hi0 hc7, if_neg hc10] at hI; exact hI⟩, by dsimp only; omega⟩
  · try simp only [decide_eq_true_eq, decide_eq_false_iff_not, ne_eq, Decidable.not_not, Bool.not_eq_true', Bool.not_eq_false', Bool.or_eq_true, Bool.and_eq_true, Bool.or_eq_false_iff, Bool.and_eq_false_iff] at hc7
    refine W_exit ?_
    simp only [thenQ, blockQ, loopQ, reduceIte, Nat.reduceEqDiff]
    refine hK2 _ ?_
    clear hK2
    refine W_seq (fun K12 hK12 => ?_)
    refine W_region hT hG [] [4] ?_
    rw [hnt]
    simp only [baseS, eq_self, implies_true, if_true, if_false, reduceIte, Nat.reduceBEq, Nat.reduceEqDiff, Nat.reduceLT, Nat.reduceAdd, reduceCtorEq, tyInt, tdInt, tyBoxes, tdBoxes, tyBox, tdBox]
    repeat (refine And.intro ?_ ?_; focus (first | exact ordP (by kernel_rfl) | with_reducible exact rfl | assumption | trivial | (simp only [inR]; omega) | omega | (intro hh; (try obtain ⟨hh1, hh2⟩ := hh); (repeat' apply And.intro) <;> first | assumption | (simp only [inR]; omega) | omega | (intros; (repeat' apply And.intro) <;> first | assumption | (simp only [inR]; omega) | omega)) | (intros; (repeat' apply And.intro) <;> first | assumption | (simp only [inR]; omega) | omega | (simp_all; done) | (simp_all [inR]; omega))))
    refine hK12 _ ?_
    clear hK12
    refine W_ret ?_
    simp only [thenQ, blockQ, loopQ, retQ, reduceIte, Nat.reduceEqDiff]
    refine ret0 ?_ rfl rfl (.inr rfl) rfl
    simp only [show Try.f43.results.toList = [ResultVar.tmp 4] from rfl, resAV, resL, look, Nat.reduceEqDiff, reduceIte, tyHull, tdHull, applyUps, noH, isStr, List.length_cons, List.length_nil, Nat.reduceAdd, and_self]
    all_goals (
      refine congrArg (fun x => some (AV.int x)) ?_
      first | (rw [findF_end hc7] at hI; rw [portF, ← hI]; rfl) | (rw [findF_step hi0 HCPREV, if_pos hc7] at hI; rw [portF, if_neg (by omega), pAt, ← hI]; done))

end Go.Proofs.Ytjkghldkemoddaa
