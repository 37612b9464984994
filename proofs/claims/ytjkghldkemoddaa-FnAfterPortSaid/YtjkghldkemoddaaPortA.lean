/- Plain laws of ports, and the port of a box. No condition. -/
import Derived.Test.YtjkghldkemoddaaLoadA
namespace Go.Proofs.Ytjkghldkemoddaa
open Go
set_option linter.unusedVariables false
set_option linter.unusedSimpArgs false

theorem overF_step {t : Int} {bs : List BoxD} {p : List Int} {i : Int} (h : 0 ≤ i) : overF t bs p (i + 1).toNat = overF t bs p i.toNat + if overB t bs p i.toNat = true then 1 else 0 := by
  rw [overF, sumTo_step _ h, overF]
theorem over_zero {t : Int} {bs : List BoxD} {p : List Int} {k : Nat} (h : p.getD k 0 = 0) : overB t bs p k = false := by
  have : decide (p.getD k 0 ≠ 0) = false := decide_eq_false (fun hn => hn h)
  rw [overB, this, Bool.false_and]
theorem over_yes {t : Int} {bs : List BoxD} {p : List Int} {i j : Int} (hi : 0 ≤ i) (hj : 0 ≤ j) (ht : 1 ≤ t) (h1 : ¬ p.getD i.toNat 0 = 0) (h2 : i - i % t ≤ j) (h3 : j < i) (h4 : p.getD j.toNat 0 ≠ 0) (h5 : pAt bs (p.getD j.toNat 0) < pAt bs (p.getD i.toNat 0)) : overB t bs p i.toNat = true := by
  have e1 : ((j.toNat : Nat) : Int) = j := by omega
  have e2 : ((i.toNat : Nat) : Int) = i := by omega
  rw [overB, decide_eq_true h1, Bool.true_and]
  refine any_yes (j := j.toNat) (by omega) ?_
  rw [lowB, e1, e2, decide_eq_true ((row_iff ht hj (by omega)).2 h2), decide_eq_true h4, decide_eq_true h5]; rfl
theorem over_no {t : Int} {bs : List BoxD} {p : List Int} {i j : Int} (hi : 0 ≤ i) (ht : 1 ≤ t) (hj : ¬ j < i) (h : ∀ q : Nat, i - i % t ≤ q → (q : Int) < j → ¬ pAt bs (p.getD q 0) < pAt bs (p.getD i.toNat 0)) : overB t bs p i.toNat = false := by
  have e2 : ((i.toNat : Nat) : Int) = i := by omega
  rw [overB, any_no, Bool.and_false]
  intro q hq
  rw [lowB, e2]
  by_cases h1 : (q : Int) / t = i / t
  · have h2 := (row_iff ht (by omega) (by omega)).1 h1
    rw [decide_eq_false (h q h2 (by omega)), Bool.and_false]
  · rw [decide_eq_false h1, Bool.false_and, Bool.false_and]
theorem over_next {t : Int} {bs : List BoxD} {p : List Int} {i j : Int} (hj : 0 ≤ j) (h : ∀ q : Nat, i - i % t ≤ q → (q : Int) < j → ¬ pAt bs (p.getD q 0) < pAt bs (p.getD i.toNat 0)) (h1 : ¬ pAt bs (p.getD j.toNat 0) < pAt bs (p.getD i.toNat 0)) : ∀ q : Nat, i - i % t ≤ q → (q : Int) < j + 1 → ¬ pAt bs (p.getD q 0) < pAt bs (p.getD i.toNat 0) := by
  intro q h2 h3
  by_cases e : (q : Int) = j
  · have : q = j.toNat := by omega
    rw [this]; exact h1
  · exact h q h2 (by omega)
/-- Below a box, in its row: a box. -/
theorem PlanOK.low {b r t : Int} {bs : List BoxD} {p : List Int} (h : PlanOK b r t bs p) {i j : Int} (hi : 0 ≤ i) (h1 : i < p.length) (h0 : ¬ p.getD i.toNat 0 = 0) (h2 : i - i % t ≤ j) (h3 : j < i) : 0 ≤ j ∧ p.getD j.toNat 0 ≠ 0 ∧ 0 ≤ findF bs (p.getD j.toNat 0) 0 := by
  have ht := hv_t h.ship
  have hj : 0 ≤ j := by
    have h4 := Int.mul_ediv_add_emod i t
    have h5 : 0 ≤ t * (i / t) := Int.mul_nonneg (by omega) (Int.ediv_nonneg hi (by omega))
    omega
  have e1 : ((j.toNat : Nat) : Int) = j := by omega
  have e2 : ((i.toNat : Nat) : Int) = i := by omega
  have h5 := h.full j.toNat (i.toNat - j.toNat) i.toNat (by omega) (by omega) h0 (by rw [e1, e2]; exact (row_iff (by omega) hj (by omega)).2 h2)
  exact ⟨hj, h5, (h.inb j.toNat).resolve_left h5⟩
theorem PlanOK.find {b r t : Int} {bs : List BoxD} {p : List Int} (h : PlanOK b r t bs p) {k : Nat} (h0 : ¬ p.getD k 0 = 0) : 0 ≤ findF bs (p.getD k 0) 0 := (h.inb k).resolve_left h0
def overR (b r t : Int) (bs : List BoxD) (p : List Int) : Int := if planB b r t bs p = true then overF t bs p p.length else -1
theorem low_step {t : Int} {p : List Int} {f : Int → Bool} {i j : Int} (hj : 0 ≤ j) (hi : 0 ≤ i) : (List.range (j + 1).toNat).any (lowB t p f i.toNat) = ((List.range j.toNat).any (lowB t p f i.toNat) || (decide (j / t = i / t) && decide (p.getD j.toNat 0 ≠ 0) && f (p.getD j.toNat 0))) := by
  rw [any_step _ hj, lowB, Int.toNat_of_nonneg hj, Int.toNat_of_nonneg hi]
/-- Is a box being moved in the row of the slot before i? -/
def mvB (t : Int) (bs : List BoxD) (p : List Int) (port : Int) (i : Nat) : Bool := (List.range i).any fun j => decide ((j : Int) / t = ((i : Int) - 1) / t) && decide (p.getD j 0 ≠ 0) && decide (pAt bs (p.getD j 0) = port)
theorem mv_in {t : Int} {bs : List BoxD} {p : List Int} {port i : Int} (ht : 1 ≤ t) (h0 : 0 ≤ i) : (if i % t = 0 then false else mvB t bs p port i.toNat) = (List.range i.toNat).any (lowB t p (fun n => decide (pAt bs n = port)) i.toNat) := by
  have e2 : ((i.toNat : Nat) : Int) = i := by omega
  split
  · rename_i h
    symm
    refine any_no fun j hj => ?_
    rw [lowB, e2, decide_eq_false, Bool.false_and, Bool.false_and]
    intro h1
    have := (row_iff ht (by omega) (by omega)).1 h1
    omega
  · rename_i h
    unfold mvB
    have h1 := Int.mul_ediv_add_emod i t
    have h2 : 0 ≤ i % t := Int.emod_nonneg _ (by omega)
    have h3 : i % t < t := Int.emod_lt_of_pos _ (by omega)
    have h4 : (i - 1) / t = i / t := by
      rw [show i - 1 = (i % t - 1) + t * (i / t) by omega, Int.add_mul_ediv_left _ _ (by omega), Int.ediv_eq_zero_of_lt (by omega) (by omega)]; omega
    congr 1
    funext j
    rw [lowB, e2, h4]
theorem mv_out {t : Int} {bs : List BoxD} {p : List Int} {port i : Int} (h0 : 0 ≤ i) : mvB t bs p port (i + 1).toNat = ((List.range i.toNat).any (lowB t p (fun n => decide (pAt bs n = port)) i.toNat) || (decide (p.getD i.toNat 0 ≠ 0) && decide (pAt bs (p.getD i.toNat 0) = port))) := by
  have e2 : ((i.toNat : Nat) : Int) = i := by omega
  have e3 : (((i + 1).toNat : Nat) : Int) - 1 = i := by omega
  unfold mvB
  rw [any_step _ h0, e3, e2, decide_eq_true rfl, Bool.true_and]
  congr 2
  funext j
  rw [lowB, e2]
theorem off_eq {t : Int} {bs : List BoxD} {p : List Int} {port i : Int} (h0 : 0 ≤ i) : offB t bs p port i.toNat = (decide (p.getD i.toNat 0 ≠ 0) && ((List.range i.toNat).any (lowB t p (fun n => decide (pAt bs n = port)) i.toNat) || decide (pAt bs (p.getD i.toNat 0) = port))) := by
  have e : i.toNat + 1 = (i + 1).toNat := by omega
  rw [offB, e, low_step h0 h0, decide_eq_true rfl, Bool.true_and]
  cases decide (p.getD i.toNat 0 ≠ 0) <;> simp
def offR (b r t : Int) (bs : List BoxD) (p : List Int) (port : Int) : List Int := if planB b r t bs p = true ∧ (0 ≤ port ∧ port ≤ 6) then selTo (offB t bs p port) p.length else []
theorem offR_no {b r t : Int} {bs : List BoxD} {p : List Int} {port : Int} (h : planB b r t bs p = false ∨ ¬ (0 ≤ port ∧ port ≤ 6)) : [] = offR b r t bs p port := by
  unfold offR; rw [if_neg]
  rintro ⟨h1, h2⟩
  rcases h with h | h
  · rw [h] at h1; cases h1
  · exact h h2
theorem offR_len (b r t : Int) (bs : List BoxD) (p : List Int) (port : Int) : (offR b r t bs p port).length ≤ p.length := by
  unfold offR; split
  · exact selTo_len _ _
  · simp
def aftR (b r t : Int) (bs : List BoxD) (p : List Int) (port : Int) : List Int := if planB b r t bs p = true ∧ (0 ≤ port ∧ port ≤ 6) then (apTo t bs port p p.length).1 else []
theorem aftR_no {b r t : Int} {bs : List BoxD} {p : List Int} {port : Int} (h : planB b r t bs p = false ∨ ¬ (0 ≤ port ∧ port ≤ 6)) : [] = aftR b r t bs p port := by
  unfold aftR; rw [if_neg]
  rintro ⟨h1, h2⟩
  rcases h with h | h
  · rw [h] at h1; cases h1
  · exact h h2
theorem apTo_step (t : Int) (bs : List BoxD) (port : Int) (p : List Int) {i : Int} (h : 0 ≤ i) : apTo t bs port p (i + 1).toNat = (if p.getD i.toNat 0 ≠ 0 ∧ pAt bs (p.getD i.toNat 0) ≠ port then ((apTo t bs port p i.toNat).1.set (if i % t = 0 then i else (apTo t bs port p i.toNat).2).toNat (p.getD i.toNat 0), (if i % t = 0 then i else (apTo t bs port p i.toNat).2) + 1) else ((apTo t bs port p i.toNat).1, if i % t = 0 then i else (apTo t bs port p i.toNat).2)) := by
  have e : (i + 1).toNat = i.toNat + 1 := by omega
  rw [e, apTo, apStep, Int.toNat_of_nonneg h]
theorem row_head {t q k : Int} (ht : 1 ≤ t) (h1 : q % t = 0) (h2 : q ≤ k) (h3 : k < q + t) : k % t = 0 ↔ k = q := by
  have h4 : k % t = k - q := by
    rw [show k = (k - q) + q by omega, Int.add_emod, h1, Int.add_zero, Int.emod_emod, Int.emod_eq_of_lt (by omega) (by omega)]; omega
  omega
theorem over_any {t : Int} {bs : List BoxD} {p : List Int} {i j : Int} (hi : 0 ≤ i) (hj : j ≤ i) (h : ¬ j < i ∨ p.getD i.toNat 0 = 0) : overB t bs p i.toNat = (decide (p.getD i.toNat 0 ≠ 0) && (List.range j.toNat).any (lowB t p (fun n => decide (pAt bs n < pAt bs (p.getD i.toNat 0))) i.toNat)) := by
  rw [overB]
  rcases h with h | h
  · have : j.toNat = i.toNat := by omega
    rw [this]
  · rw [decide_eq_false (fun hn => hn h), Bool.false_and, Bool.false_and]
theorem cond_and3 (a b : Bool) : (bif a then b else false) = (a && b) := by cases a <;> rfl
theorem offR_off {t : Int} {bs : List BoxD} {p : List Int} {port i j : Int} (hi : 0 ≤ i) (hj : j ≤ i) (h : ¬ j < i ∨ p.getD i.toNat 0 = 0) : offB t bs p port i.toNat = (decide (p.getD i.toNat 0 ≠ 0) && ((List.range j.toNat).any (lowB t p (fun n => decide (pAt bs n = port)) i.toNat) || decide (pAt bs (p.getD i.toNat 0) = port))) := by
  rw [off_eq hi]
  rcases h with h | h
  · have : j.toNat = i.toNat := by omega
    rw [this]
  · rw [decide_eq_false (fun hn => hn h), Bool.false_and, Bool.false_and]

def c_impl_portAt : Ctr where
  modes := [.v (.r .box), .v .p]
  al := false
  run := fun xs os => match xs, os with
    | [.rs .box bs, .int n], [] => some ⟨bs.length ≤ 9223372036854775807 ∧ 0 ≤ findF bs n 0, .int (pAt bs n), [], []⟩
    | _, _ => none
theorem m_impl_portAt : Meets Try.prog 90 c_impl_portAt := by
  refine meets_of (T := tyT) tyOK Try.func90 (by rfl) rfl (by decide) ?_
  intro args owns R hrun hpre
  simp only [c_impl_portAt] at hrun
  split at hrun
  case h_2 => cases hrun
  rename_i bs n
  cases hrun
  try dsimp only at hpre
  refine ⟨_, rfl, fun E hP hnt hnp => ?_⟩
  replace hnt : E.nt = 12 := hnt
  replace hnp : E.np = 2 := hnp
  have hT : ∀ t d, tyT t = some d → TyOK E.P t d := hP ▸ tyOK
  have hG : ∀ f C, Γof [(78, c_impl_boxAt)] f = some C → Meets E.P f C := hΓof (by rw [hP]; exact ⟨m_impl_boxAt, trivial⟩)
  try simp only [show Try.f90.ntmps = 12 from rfl]
  have hbs := hpre.1
  have hin := hpre.2
  have hlt := findF_lt hpre.2
  refine W_seq (fun K1 hK1 => ?_)
  refine W_region hT hG [] [0, 1] ?_
  rw [hnt]
  simp only [baseS, eq_self, implies_true, if_true, if_false, reduceIte, Nat.reduceBEq, Nat.reduceEqDiff, Nat.reduceLT, Nat.reduceAdd, reduceCtorEq, tyInt, tdInt, tyBoxes, tdBoxes, tyBox, tdBox, c_impl_boxAt]
  repeat (refine And.intro ?_ ?_; focus (first | exact ordP (by kernel_rfl) | with_reducible exact rfl | assumption | trivial | (simp only [inR]; omega) | omega | (intro hh; (try obtain ⟨hh1, hh2⟩ := hh); (repeat' apply And.intro) <;> first | assumption | (simp only [inR]; omega) | omega | (intros; (repeat' apply And.intro) <;> first | assumption | (simp only [inR]; omega) | omega)) | (intros; (repeat' apply And.intro) <;> first | assumption | (simp only [inR]; omega) | omega | (simp_all; done) | (simp_all [inR]; omega))))
  refine hK1 _ ?_
  clear hK1
  refine W_seq (fun K2 hK2 => ?_)
  refine W_region hT hG [] [4] ?_
  rw [hnt]
  simp only [baseS, eq_self, implies_true, if_true, if_false, reduceIte, Nat.reduceBEq, Nat.reduceEqDiff, Nat.reduceLT, Nat.reduceAdd, reduceCtorEq, tyInt, tdInt, tyBoxes, tdBoxes, tyBox, tdBox, c_impl_boxAt]
  repeat (refine And.intro ?_ ?_; focus (first | exact ordP (by kernel_rfl) | with_reducible exact rfl | assumption | trivial | (simp only [inR]; omega) | omega | (intro hh; (try obtain ⟨hh1, hh2⟩ := hh); (repeat' apply And.intro) <;> first | assumption | (simp only [inR]; omega) | omega | (intros; (repeat' apply And.intro) <;> first | assumption | (simp only [inR]; omega) | omega)) | (intros; (repeat' apply And.intro) <;> first | assumption | (simp only [inR]; omega) | omega | (simp_all; done) | (simp_all [inR]; omega))))
  refine hK2 _ ?_
  clear hK2
  refine W_ret ?_
  simp only [thenQ, blockQ, loopQ, retQ, reduceIte, Nat.reduceEqDiff]
  refine ret0 ?_ rfl rfl (.inr rfl) rfl
  simp only [show Try.f90.results.toList = [ResultVar.tmp 4] from rfl, resAV, resL, look, Nat.reduceEqDiff, reduceIte, tyHull, tdHull, applyUps, noH, isStr, List.length_cons, List.length_nil, Nat.reduceAdd, and_self]
  all_goals (
    first | rfl | (simp_all; done))

def c_spec_l10Port : Ctr where
  modes := [.v (.r .box), .v (.r .i64), .v .p]
  al := false
  run := fun xs os => match xs, os with
    | [.rs .box bs, .rs .i64 p, .int k], [] => some ⟨bs.length ≤ 9223372036854775807 ∧ (0 ≤ k ∧ k < p.length) ∧ 0 ≤ findF bs (p.getD k.toNat 0) 0, .int (pAt bs (p.getD k.toNat 0)), [], []⟩
    | _, _ => none
theorem m_spec_l10Port : Meets Try.prog 91 c_spec_l10Port := by
  refine meets_of (T := tyT) tyOK Try.func91 (by rfl) rfl (by decide) ?_
  intro args owns R hrun hpre
  simp only [c_spec_l10Port] at hrun
  split at hrun
  case h_2 => cases hrun
  rename_i bs p k
  cases hrun
  try dsimp only at hpre
  refine ⟨_, rfl, fun E hP hnt hnp => ?_⟩
  replace hnt : E.nt = 17 := hnt
  replace hnp : E.np = 3 := hnp
  have hT : ∀ t d, tyT t = some d → TyOK E.P t d := hP ▸ tyOK
  have hG : ∀ f C, Γof [(97, c_spec_l2Find)] f = some C → Meets E.P f C := hΓof (by rw [hP]; exact ⟨m_spec_l2Find, trivial⟩)
  try simp only [show Try.f91.ntmps = 17 from rfl]
  have hbs := hpre.1
  have hk := hpre.2.1
  have hin := hpre.2.2
  have hlt := findF_lt hpre.2.2
  refine W_seq (fun K1 hK1 => ?_)
  refine W_region hT hG [] [0, 1, 2] ?_
  rw [hnt]
  simp only [baseS, eq_self, implies_true, if_true, if_false, reduceIte, Nat.reduceBEq, Nat.reduceEqDiff, Nat.reduceLT, Nat.reduceAdd, reduceCtorEq, tyInt, tdInt, tyBoxes, tdBoxes, tyInts, tdInts, tyBox, tdBox, c_spec_l2Find]
  repeat (refine And.intro ?_ ?_; focus (first | exact ordP (by kernel_rfl) | with_reducible exact rfl | assumption | trivial | (simp only [inR]; omega) | omega | (intro hh; (try obtain ⟨hh1, hh2⟩ := hh); (repeat' apply And.intro) <;> first | assumption | (simp only [inR]; omega) | omega | (intros; (repeat' apply And.intro) <;> first | assumption | (simp only [inR]; omega) | omega)) | (intros; (repeat' apply And.intro) <;> first | assumption | (simp only [inR]; omega) | omega | (simp_all; done) | (simp_all [inR]; omega))))
  refine hK1 _ ?_
  clear hK1
  refine W_seq (fun K2 hK2 => ?_)
  refine W_region hT hG [] [6] ?_
  rw [hnt]
  simp only [baseS, eq_self, implies_true, if_true, if_false, reduceIte, Nat.reduceBEq, Nat.reduceEqDiff, Nat.reduceLT, Nat.reduceAdd, reduceCtorEq, tyInt, tdInt, tyBoxes, tdBoxes, tyInts, tdInts, tyBox, tdBox, c_spec_l2Find]
  repeat (refine And.intro ?_ ?_; focus (first | exact ordP (by kernel_rfl) | with_reducible exact rfl | assumption | trivial | (simp only [inR]; omega) | omega | (intro hh; (try obtain ⟨hh1, hh2⟩ := hh); (repeat' apply And.intro) <;> first | assumption | (simp only [inR]; omega) | omega | (intros; (repeat' apply And.intro) <;> first | assumption | (simp only [inR]; omega) | omega)) | (intros; (repeat' apply And.intro) <;> first | assumption | (simp only [inR]; omega) | omega | (simp_all; done) | (simp_all [inR]; omega))))
  refine hK2 _ ?_
  clear hK2
  refine W_ret ?_
  simp only [thenQ, blockQ, loopQ, retQ, reduceIte, Nat.reduceEqDiff]
  refine ret0 ?_ rfl rfl (.inr rfl) rfl
  simp only [show Try.f91.results.toList = [ResultVar.tmp 6] from rfl, resAV, resL, look, Nat.reduceEqDiff, reduceIte, tyHull, tdHull, applyUps, noH, isStr, List.length_cons, List.length_nil, Nat.reduceAdd, and_self]
  all_goals (
    first | rfl | (simp_all; done))

def c_spec_l10Above : Ctr where
  modes := [.v .p, .v .p, .v .p]
  al := false
  run := fun xs os => match xs, os with
    | [.agg [.int b, .int r, .int t], .int s, .int o], [] => some ⟨(0 ≤ s ∧ s ≤ 35) ∧ (0 ≤ o ∧ o ≤ 35) ∧ 1 ≤ t, .bool (decide (o < s) && decide (s / t = o / t)), [], []⟩
    | _, _ => none
theorem m_spec_l10Above : Meets Try.prog 92 c_spec_l10Above := by
  refine meets_of (T := tyT) tyOK Try.func92 (by rfl) rfl (by decide) ?_
  intro args owns R hrun hpre
  simp only [c_spec_l10Above] at hrun
  split at hrun
  case h_2 => cases hrun
  rename_i b r t s o
  cases hrun
  try dsimp only at hpre
  refine ⟨_, rfl, fun E hP hnt hnp => ?_⟩
  replace hnt : E.nt = 21 := hnt
  replace hnp : E.np = 3 := hnp
  have hT : ∀ t d, tyT t = some d → TyOK E.P t d := hP ▸ tyOK
  have hG : ∀ f C, Γof [] f = some C → Meets E.P f C := hΓof (by rw [hP]; exact trivial)
  try simp only [show Try.f92.ntmps = 21 from rfl]
  have h1 := hpre.1
  have h2 := hpre.2.1
  have h3 := hpre.2.2
  refine W_seq (fun K1 hK1 => ?_)
  refine W_region hT hG [] [1, 2, 3] ?_
  rw [hnt]
  simp only [baseS, eq_self, implies_true, if_true, if_false, reduceIte, Nat.reduceBEq, Nat.reduceEqDiff, Nat.reduceLT, Nat.reduceAdd, reduceCtorEq, tyInt, tdInt, tyHull, tdHull]
  repeat (refine And.intro ?_ ?_; focus (first | exact ordP (by kernel_rfl) | with_reducible exact rfl | assumption | trivial | (simp only [inR]; omega) | omega | (intro hh; (try obtain ⟨hh1, hh2⟩ := hh); (repeat' apply And.intro) <;> first | assumption | (simp only [inR]; omega) | omega | (intros; (repeat' apply And.intro) <;> first | assumption | (simp only [inR]; omega) | omega)) | (intros; (repeat' apply And.intro) <;> first | assumption | (simp only [inR]; omega) | omega | (simp_all; done) | (simp_all [inR]; omega))))
  refine hK1 _ ?_
  clear hK1
  refine W_seq (fun K2 hK2 => ?_)
  refine W_region_draw hT hG (by rw [hP]; exact draws_ok) [] [6] ?_
  rw [hnt]
  simp only [baseS, eq_self, implies_true, if_true, if_false, reduceIte, Nat.reduceBEq, Nat.reduceEqDiff, Nat.reduceLT, Nat.reduceAdd, reduceCtorEq, tyInt, tdInt, tyHull, tdHull]
  repeat (refine And.intro ?_ ?_; focus (first | exact ordP (by kernel_rfl) | with_reducible exact rfl | assumption | trivial | (simp only [inR]; omega) | omega | (intro hh; (try obtain ⟨hh1, hh2⟩ := hh); (repeat' apply And.intro) <;> first | assumption | (simp only [inR]; omega) | omega | (intros; (repeat' apply And.intro) <;> first | assumption | (simp only [inR]; omega) | omega)) | (intros; (repeat' apply And.intro) <;> first | assumption | (simp only [inR]; omega) | omega | (simp_all; done) | (simp_all [inR]; omega))))
  refine hK2 _ ?_
  clear hK2
  refine W_ret ?_
  simp only [thenQ, blockQ, loopQ, retQ, reduceIte, Nat.reduceEqDiff]
  refine ret0 ?_ rfl rfl (.inr rfl) rfl
  simp only [show Try.f92.results.toList = [ResultVar.tmp 6] from rfl, resAV, resL, look, Nat.reduceEqDiff, reduceIte, tyHull, tdHull, applyUps, noH, isStr, List.length_cons, List.length_nil, Nat.reduceAdd, and_self]
  all_goals (
    first | rfl | (simp_all; done))

end Go.Proofs.Ytjkghldkemoddaa
