/- Walks over the reader of drawn codes. No condition. -/
import Derived.Test.YtpiaeckkjdcifaaHull
namespace Go.Proofs.Ytpiaeckkjdcifaa
open Go
set_option linter.unusedVariables false
set_option linter.unusedSimpArgs false

/-- The mixture past the code's end. -/
def mixV (b : List Int) (k : Int) : Int := b.getD (k % b.length).toNat 0 * 131 + b.getD ((k * 7 + 3) % b.length).toNat 0 * 1117 + k * 29 + k / b.length * 53
def xorV (x : Int) : Int := ((x.toNat ^^^ (x / 64).toNat : Nat) : Int)
def pickV (b : List Int) (p n : Int) : Int := if n < 1 ∨ (b.length : Int) = 0 then 0 else if p < b.length then b.getD p.toNat 0 % n else xorV (mixV b p) % n
def codeOK (b : List Int) : Prop := b.length ≤ 2000 ∧ ∀ x ∈ b, 0 ≤ x ∧ x ≤ 255
theorem codeOK_get {b : List Int} (h : codeOK b) (k : Nat) : 0 ≤ b.getD k 0 ∧ b.getD k 0 ≤ 255 := by
  rw [List.getD_eq_getElem?_getD]
  cases hx : b[k]? with
  | none => simp
  | some x => exact h.2 x (List.mem_of_getElem? hx)
theorem take_short {α : Type} {b : List α} {n : Nat} (h : b.length ≤ n) : b.take n = b := List.take_of_length_le h
theorem mix_facts {b : List Int} {k : Int} (h : codeOK b) (hn : ¬ (b.length : Int) = 0) (h0 : 0 ≤ k) (h1 : k ≤ 1000000) :
    0 ≤ k % b.length ∧ k % b.length < b.length ∧ 0 ≤ (k * 7 + 3) % b.length ∧ (k * 7 + 3) % b.length < b.length ∧ 0 ≤ k / b.length ∧ k / b.length ≤ 1000000 ∧ 0 ≤ b.getD (k % b.length).toNat 0 ∧ b.getD (k % b.length).toNat 0 ≤ 255 ∧ 0 ≤ b.getD ((k * 7 + 3) % b.length).toNat 0 ∧ b.getD ((k * 7 + 3) % b.length).toNat 0 ≤ 255 := by
  have hl : 0 < (b.length : Int) := by omega
  have h2 := codeOK_get h (k % b.length).toNat
  have h3 := codeOK_get h ((k * 7 + 3) % b.length).toNat
  have h4 := Int.ediv_le_self (a := k) b.length h0
  exact ⟨Int.emod_nonneg _ hn, Int.emod_lt_of_pos _ hl, Int.emod_nonneg _ hn, Int.emod_lt_of_pos _ hl, Int.ediv_nonneg h0 (by omega), by omega, h2.1, h2.2, h3.1, h3.2⟩

def c_spec_l20Rd_pick : Ctr where
  modes := [.m, .v .p]
  al := true
  run := fun xs os => match xs, os with
    | [.int n], [.var [.rs .u8 b, .int p]] => some ⟨codeOK b ∧ (0 ≤ p ∧ p ≤ 1000000) ∧ (-9223372036854775808 ≤ n ∧ n ≤ 9223372036854775807), .int (pickV b p n), [], [.var [.rs .u8 b, .int (p + 1)]]⟩
    | _, _ => none
set_option maxRecDepth 10000 in
set_option maxHeartbeats 2000000 in
theorem m_spec_l20Rd_pick : Meets Try.prog 59 c_spec_l20Rd_pick := by
  refine meets_of (T := tyT) tyOK Try.func59 (by rfl) rfl (by decide) ?_
  intro args owns R hrun hpre
  simp only [c_spec_l20Rd_pick] at hrun
  split at hrun
  case h_2 => cases hrun
  rename_i n b p
  cases hrun
  try dsimp only at hpre
  refine ⟨⟨[(0, .op 0 0), (1, .int n)], [(0, some (.var [.rs .u8 b, .int p]))], 99⟩, rfl, fun E hP hnt hnp => ?_⟩
  replace hnt : E.nt = 99 := hnt
  replace hnp : E.np = 2 := hnp
  have hT : ∀ t d, tyT t = some d → TyOK E.P t d := hP ▸ tyOK
  have hG : ∀ f C, Γof [] f = some C → Meets E.P f C := hΓof (by rw [hP]; exact trivial)
  try simp only [show Try.f59.ntmps = 99 from rfl]
  have hc := hpre.1
  have hp := hpre.2.1
  have hn := hpre.2.2
  have hget := fun k => codeOK_get hc k
  have hlen := hc.1
  have hgp := hget p.toNat
  refine W_seq (fun K1 hK1 => ?_)
  refine W_region hT hG [] [0, 1] ?_
  rw [hnt]
  simp only [baseS, eq_self, implies_true, if_true, if_false, reduceIte, Nat.reduceBEq, Nat.reduceEqDiff, Nat.reduceLT, Nat.reduceAdd, reduceCtorEq, tyInt, tdInt, tyU8, tdU8, tyBytes, tdBytes, tyRd, tdRd, Int.add_sub_cancel, storeAV, List.getElem?_cons_zero, List.set_cons_succ, List.set_cons_zero, Option.isSome_some]
  repeat (refine And.intro ?_ ?_; focus (first | exact ordP (by kernel_rfl) | with_reducible exact rfl | assumption | trivial | (simp only [inR]; omega) | omega | (intro hh; (try obtain ⟨hh1, hh2⟩ := hh); (repeat' apply And.intro) <;> first | assumption | (simp only [inR]; omega) | omega | (intros; (repeat' apply And.intro) <;> first | assumption | (simp only [inR]; omega) | omega)) | (intros; (repeat' apply And.intro) <;> first | assumption | (simp only [inR]; omega) | omega | (simp_all; done) | (simp_all [inR]; omega))))
  refine hK1 _ ?_
  clear hK1
  refine W_seq (fun K2 hK2 => ?_)
  refine W_region hT hG [] [0, 1] ?_
  rw [hnt]
  simp only [baseS, eq_self, implies_true, if_true, if_false, reduceIte, Nat.reduceBEq, Nat.reduceEqDiff, Nat.reduceLT, Nat.reduceAdd, reduceCtorEq, tyInt, tdInt, tyU8, tdU8, tyBytes, tdBytes, tyRd, tdRd, Int.add_sub_cancel, storeAV, List.getElem?_cons_zero, List.set_cons_succ, List.set_cons_zero, Option.isSome_some]
  repeat (refine And.intro ?_ ?_; focus (first | exact ordP (by kernel_rfl) | with_reducible exact rfl | assumption | trivial | (simp only [inR]; omega) | omega | (intro hh; (try obtain ⟨hh1, hh2⟩ := hh); (repeat' apply And.intro) <;> first | assumption | (simp only [inR]; omega) | omega | (intros; (repeat' apply And.intro) <;> first | assumption | (simp only [inR]; omega) | omega)) | (intros; (repeat' apply And.intro) <;> first | assumption | (simp only [inR]; omega) | omega | (simp_all; done) | (simp_all [inR]; omega))))
  refine hK2 _ ?_
  clear hK2
  refine W_seq (fun K3 hK3 => ?_)
  refine W_seq (fun K4 hK4 => ?_)
  refine W_region hT hG [] [0, 1, 24] ?_
  rw [hnt]
  simp only [baseS, eq_self, implies_true, if_true, if_false, reduceIte, Nat.reduceBEq, Nat.reduceEqDiff, Nat.reduceLT, Nat.reduceAdd, reduceCtorEq, tyInt, tdInt, tyU8, tdU8, tyBytes, tdBytes, tyRd, tdRd, Int.add_sub_cancel, storeAV, List.getElem?_cons_zero, List.set_cons_succ, List.set_cons_zero, Option.isSome_some]
  repeat (refine And.intro ?_ ?_; focus (first | exact ordP (by kernel_rfl) | with_reducible exact rfl | assumption | trivial | (simp only [inR]; omega) | omega | (intro hh; (try obtain ⟨hh1, hh2⟩ := hh); (repeat' apply And.intro) <;> first | assumption | (simp only [inR]; omega) | omega | (intros; (repeat' apply And.intro) <;> first | assumption | (simp only [inR]; omega) | omega)) | (intros; (repeat' apply And.intro) <;> first | assumption | (simp only [inR]; omega) | omega | (simp_all; done) | (simp_all [inR]; omega))))
  refine hK4 _ ?_
  clear hK4
  refine W_cond (b := _) rfl (fun hc5 => ?_) (fun hc5 => ?_)
  · try simp only [decide_eq_true_eq, decide_eq_false_iff_not, ne_eq, Decidable.not_not, Bool.not_eq_true', Bool.not_eq_false', Bool.or_eq_true, Bool.and_eq_true, Bool.or_eq_false_iff, Bool.and_eq_false_iff] at hc5
    refine W_seq (fun K6 hK6 => ?_)
    refine W_region hT hG [] [0, 4] ?_
    rw [hnt]
    simp only [baseS, eq_self, implies_true, if_true, if_false, reduceIte, Nat.reduceBEq, Nat.reduceEqDiff, Nat.reduceLT, Nat.reduceAdd, reduceCtorEq, tyInt, tdInt, tyU8, tdU8, tyBytes, tdBytes, tyRd, tdRd, Int.add_sub_cancel, storeAV, List.getElem?_cons_zero, List.set_cons_succ, List.set_cons_zero, Option.isSome_some]
    repeat (refine And.intro ?_ ?_; focus (first | exact ordP (by kernel_rfl) | with_reducible exact rfl | assumption | trivial | (simp only [inR]; omega) | omega | (intro hh; (try obtain ⟨hh1, hh2⟩ := hh); (repeat' apply And.intro) <;> first | assumption | (simp only [inR]; omega) | omega | (intros; (repeat' apply And.intro) <;> first | assumption | (simp only [inR]; omega) | omega)) | (intros; (repeat' apply And.intro) <;> first | assumption | (simp only [inR]; omega) | omega | (simp_all; done) | (simp_all [inR]; omega))))
    refine hK6 _ ?_
    clear hK6
    refine W_ret ?_
    simp only [thenQ, blockQ, loopQ, retQ, reduceIte, Nat.reduceEqDiff]
    refine retm 0 ?_ rfl rfl rfl (.inl rfl) rfl
    refine Eq.trans (b := some (AV.int _)) rfl (congrArg (fun x => some (AV.int x)) ?_)
    first | (rw [pickV, if_pos hc5]; done) | (rw [pickV, if_neg (not_or.2 HCPREV), if_pos hc5]; done) | (rw [pickV, if_neg (not_or.2 HCPREV), if_neg hc5]; rfl)
  · try simp only [decide_eq_true_eq, decide_eq_false_iff_not, ne_eq, Decidable.not_not, Bool.not_eq_true', Bool.not_eq_false', Bool.or_eq_true, Bool.and_eq_true, Bool.or_eq_false_iff, Bool.and_eq_false_iff] at hc5
    refine W_skip ?_
    simp only [thenQ, blockQ, loopQ, reduceIte, Nat.reduceEqDiff]
    refine hK3 _ ?_
    clear hK3
    refine W_seq (fun K7 hK7 => ?_)
    refine W_region hT hG [] [0, 1, 5] ?_
    rw [hnt]
    simp only [baseS, eq_self, implies_true, if_true, if_false, reduceIte, Nat.reduceBEq, Nat.reduceEqDiff, Nat.reduceLT, Nat.reduceAdd, reduceCtorEq, tyInt, tdInt, tyU8, tdU8, tyBytes, tdBytes, tyRd, tdRd, Int.add_sub_cancel, storeAV, List.getElem?_cons_zero, List.set_cons_succ, List.set_cons_zero, Option.isSome_some]
    repeat (refine And.intro ?_ ?_; focus (first | exact ordP (by kernel_rfl) | with_reducible exact rfl | assumption | trivial | (simp only [inR]; omega) | omega | (intro hh; (try obtain ⟨hh1, hh2⟩ := hh); (repeat' apply And.intro) <;> first | assumption | (simp only [inR]; omega) | omega | (intros; (repeat' apply And.intro) <;> first | assumption | (simp only [inR]; omega) | omega)) | (intros; (repeat' apply And.intro) <;> first | assumption | (simp only [inR]; omega) | omega | (simp_all; done) | (simp_all [inR]; omega))))
    refine hK7 _ ?_
    clear hK7
    refine W_seq (fun K8 hK8 => ?_)
    refine W_seq (fun K9 hK9 => ?_)
    refine W_region hT hG [] [0, 1, 5, 36] ?_
    rw [hnt]
    simp only [baseS, eq_self, implies_true, if_true, if_false, reduceIte, Nat.reduceBEq, Nat.reduceEqDiff, Nat.reduceLT, Nat.reduceAdd, reduceCtorEq, tyInt, tdInt, tyU8, tdU8, tyBytes, tdBytes, tyRd, tdRd, Int.add_sub_cancel, storeAV, List.getElem?_cons_zero, List.set_cons_succ, List.set_cons_zero, Option.isSome_some]
    repeat (refine And.intro ?_ ?_; focus (first | exact ordP (by kernel_rfl) | with_reducible exact rfl | assumption | trivial | (simp only [inR]; omega) | omega | (intro hh; (try obtain ⟨hh1, hh2⟩ := hh); (repeat' apply And.intro) <;> first | assumption | (simp only [inR]; omega) | omega | (intros; (repeat' apply And.intro) <;> first | assumption | (simp only [inR]; omega) | omega)) | (intros; (repeat' apply And.intro) <;> first | assumption | (simp only [inR]; omega) | omega | (simp_all; done) | (simp_all [inR]; omega))))
    refine hK9 _ ?_
    clear hK9
    refine W_cond (b := _) rfl (fun hc10 => ?_) (fun hc10 => ?_)
    · try simp only [decide_eq_true_eq, decide_eq_false_iff_not, ne_eq, Decidable.not_not, Bool.not_eq_true', Bool.not_eq_false', Bool.or_eq_true, Bool.and_eq_true, Bool.or_eq_false_iff, Bool.and_eq_false_iff] at hc10
      refine W_seq (fun K11 hK11 => ?_)
      refine W_region hT hG [] [0, 4] ?_
      rw [hnt]
      simp only [baseS, eq_self, implies_true, if_true, if_false, reduceIte, Nat.reduceBEq, Nat.reduceEqDiff, Nat.reduceLT, Nat.reduceAdd, reduceCtorEq, tyInt, tdInt, tyU8, tdU8, tyBytes, tdBytes, tyRd, tdRd, Int.add_sub_cancel, storeAV, List.getElem?_cons_zero, List.set_cons_succ, List.set_cons_zero, Option.isSome_some]
      repeat (refine And.intro ?_ ?_; focus (first | exact ordP (by kernel_rfl) | with_reducible exact rfl | assumption | trivial | (simp only [inR]; omega) | omega | (intro hh; (try obtain ⟨hh1, hh2⟩ := hh); (repeat' apply And.intro) <;> first | assumption | (simp only [inR]; omega) | omega | (intros; (repeat' apply And.intro) <;> first | assumption | (simp only [inR]; omega) | omega)) | (intros; (repeat' apply And.intro) <;> first | assumption | (simp only [inR]; omega) | omega | (simp_all; done) | (simp_all [inR]; omega))))
      refine hK11 _ ?_
      clear hK11
      refine W_ret ?_
      simp only [thenQ, blockQ, loopQ, retQ, reduceIte, Nat.reduceEqDiff]
      refine retm 0 ?_ rfl rfl rfl (.inl rfl) rfl
      refine Eq.trans (b := some (AV.int _)) rfl (congrArg (fun x => some (AV.int x)) ?_)
      first | (rw [pickV, if_pos hc10]; done) | (rw [pickV, if_neg (not_or.2 hc5), if_pos hc10]; done) | (rw [pickV, if_neg (not_or.2 hc5), if_neg hc10]; rfl)
    · try simp only [decide_eq_true_eq, decide_eq_false_iff_not, ne_eq, Decidable.not_not, Bool.not_eq_true', Bool.not_eq_false', Bool.or_eq_true, Bool.and_eq_true, Bool.or_eq_false_iff, Bool.and_eq_false_iff] at hc10
      refine W_skip ?_
      simp only [thenQ, blockQ, loopQ, reduceIte, Nat.reduceEqDiff]
      refine hK8 _ ?_
      clear hK8
      refine W_seq (fun K12 hK12 => ?_)
      refine W_region_draw hT hG (by rw [hP]; exact draws_ok) [] [0, 1, 6] ?_
      rw [hnt]
      simp only [baseS, eq_self, implies_true, if_true, if_false, reduceIte, Nat.reduceBEq, Nat.reduceEqDiff, Nat.reduceLT, Nat.reduceAdd, reduceCtorEq, tyInt, tdInt, tyU8, tdU8, tyBytes, tdBytes, tyRd, tdRd, Int.add_sub_cancel, storeAV, List.getElem?_cons_zero, List.set_cons_succ, List.set_cons_zero, Option.isSome_some]
      have hm := mix_facts hc (by omega) hp.1 hp.2
      repeat (refine And.intro ?_ ?_; focus (first | exact ordP (by kernel_rfl) | with_reducible exact rfl | assumption | trivial | (simp only [inR]; omega) | omega | (intro hh; (try obtain ⟨hh1, hh2⟩ := hh); (repeat' apply And.intro) <;> first | assumption | (simp only [inR]; omega) | omega | (intros; (repeat' apply And.intro) <;> first | assumption | (simp only [inR]; omega) | omega)) | (intros; (repeat' apply And.intro) <;> first | assumption | (simp only [inR]; omega) | omega | (simp_all; done) | (simp_all [inR]; omega))))
      refine hK12 _ ?_
      clear hK12
      refine W_seq (fun K13 hK13 => ?_)
      refine W_region hT hG [] [0, 1, 6] ?_
      rw [hnt]
      simp only [baseS, eq_self, implies_true, if_true, if_false, reduceIte, Nat.reduceBEq, Nat.reduceEqDiff, Nat.reduceLT, Nat.reduceAdd, reduceCtorEq, tyInt, tdInt, tyU8, tdU8, tyBytes, tdBytes, tyRd, tdRd, Int.add_sub_cancel, storeAV, List.getElem?_cons_zero, List.set_cons_succ, List.set_cons_zero, Option.isSome_some]
      repeat (refine And.intro ?_ ?_; focus (first | exact ordP (by kernel_rfl) | with_reducible exact rfl | assumption | trivial | (simp only [inR]; omega) | omega | (intro hh; (try obtain ⟨hh1, hh2⟩ := hh); (repeat' apply And.intro) <;> first | assumption | (simp only [inR]; omega) | omega | (intros; (repeat' apply And.intro) <;> first | assumption | (simp only [inR]; omega) | omega)) | (intros; (repeat' apply And.intro) <;> first | assumption | (simp only [inR]; omega) | omega | (simp_all; done) | (simp_all [inR]; omega))))
      refine hK13 _ ?_
      clear hK13
      refine W_seq (fun K14 hK14 => ?_)
      refine W_region hT hG [] [0, 4] ?_
      rw [hnt]
      simp only [baseS, eq_self, implies_true, if_true, if_false, reduceIte, Nat.reduceBEq, Nat.reduceEqDiff, Nat.reduceLT, Nat.reduceAdd, reduceCtorEq, tyInt, tdInt, tyU8, tdU8, tyBytes, tdBytes, tyRd, tdRd, Int.add_sub_cancel, storeAV, List.getElem?_cons_zero, List.set_cons_succ, List.set_cons_zero, Option.isSome_some]
      repeat (refine And.intro ?_ ?_; focus (first | exact ordP (by kernel_rfl) | with_reducible exact rfl | assumption | trivial | (simp only [inR]; omega) | omega | (intro hh; (try obtain ⟨hh1, hh2⟩ := hh); (repeat' apply And.intro) <;> first | assumption | (simp only [inR]; omega) | omega | (intros; (repeat' apply And.intro) <;> first | assumption | (simp only [inR]; omega) | omega)) | (intros; (repeat' apply And.intro) <;> first | assumption | (simp only [inR]; omega) | omega | (simp_all; done) | (simp_all [inR]; omega))))
      refine hK14 _ ?_
      clear hK14
      refine W_ret ?_
      simp only [thenQ, blockQ, loopQ, retQ, reduceIte, Nat.reduceEqDiff]
      refine retm 0 ?_ rfl rfl rfl (.inl rfl) rfl
      refine Eq.trans (b := some (AV.int _)) rfl (congrArg (fun x => some (AV.int x)) ?_)
      first | (rw [pickV, if_pos hc10]; done) | (rw [pickV, if_neg (not_or.2 hc5), if_pos hc10]; done) | (rw [pickV, if_neg (not_or.2 hc5), if_neg hc10]; rfl)

def c_spec_l20Open : Ctr where
  modes := [.v (.r .u8)]
  al := true
  run := fun xs os => match xs, os with
    | [.rs .u8 b], [] => some ⟨True, .op 0 0, [.var [.rs .u8 (b.take 2000), .int 0]], []⟩
    | _, _ => none
theorem m_spec_l20Open : Meets Try.prog 57 c_spec_l20Open := by
  refine meets_of (T := tyT) tyOK Try.func57 (by rfl) rfl (by decide) ?_
  intro args owns R hrun hpre
  simp only [c_spec_l20Open] at hrun
  split at hrun
  case h_2 => cases hrun
  rename_i b
  cases hrun
  try dsimp only at hpre
  refine ⟨_, rfl, fun E hP hnt hnp => ?_⟩
  replace hnt : E.nt = 11 := hnt
  replace hnp : E.np = 1 := hnp
  have hT : ∀ t d, tyT t = some d → TyOK E.P t d := hP ▸ tyOK
  have hG : ∀ f C, Γof [] f = some C → Meets E.P f C := hΓof (by rw [hP]; exact trivial)
  try simp only [show Try.f57.ntmps = 11 from rfl]
  refine W_seq (fun K1 hK1 => ?_)
  refine W_region hT hG [10] [0] ?_
  rw [hnt]
  simp only [baseS, eq_self, implies_true, if_true, if_false, reduceIte, Nat.reduceBEq, Nat.reduceEqDiff, Nat.reduceLT, Nat.reduceAdd, reduceCtorEq, tyInt, tdInt, tyBytes, tdBytes, tyRd, tdRd, setAll, FT.of, Value.cells]
  repeat (refine And.intro ?_ ?_; focus (first | exact ordP (by kernel_rfl) | with_reducible exact rfl | assumption | trivial | (simp only [inR]; omega) | omega | (intro hh; (try obtain ⟨hh1, hh2⟩ := hh); (repeat' apply And.intro) <;> first | assumption | (simp only [inR]; omega) | omega | (intros; (repeat' apply And.intro) <;> first | assumption | (simp only [inR]; omega) | omega)) | (intros; (repeat' apply And.intro) <;> first | assumption | (simp only [inR]; omega) | omega | (simp_all; done) | (simp_all [inR]; omega))))
  refine hK1 _ ?_
  clear hK1
  refine W_seq (fun K2 hK2 => ?_)
  refine W_seq (fun K3 hK3 => ?_)
  refine W_region hT hG [10] [0, 5] ?_
  rw [hnt]
  simp only [baseS, eq_self, implies_true, if_true, if_false, reduceIte, Nat.reduceBEq, Nat.reduceEqDiff, Nat.reduceLT, Nat.reduceAdd, reduceCtorEq, tyInt, tdInt, tyBytes, tdBytes, tyRd, tdRd, setAll, FT.of, Value.cells]
  repeat (refine And.intro ?_ ?_; focus (first | exact ordP (by kernel_rfl) | with_reducible exact rfl | assumption | trivial | (simp only [inR]; omega) | omega | (intro hh; (try obtain ⟨hh1, hh2⟩ := hh); (repeat' apply And.intro) <;> first | assumption | (simp only [inR]; omega) | omega | (intros; (repeat' apply And.intro) <;> first | assumption | (simp only [inR]; omega) | omega)) | (intros; (repeat' apply And.intro) <;> first | assumption | (simp only [inR]; omega) | omega | (simp_all; done) | (simp_all [inR]; omega))))
  refine hK3 _ ?_
  clear hK3
  refine W_cond (b := _) rfl (fun hc4 => ?_) (fun hc4 => ?_)
  · try simp only [decide_eq_true_eq, decide_eq_false_iff_not, ne_eq, Decidable.not_not, Bool.not_eq_true', Bool.not_eq_false', Bool.or_eq_true, Bool.and_eq_true, Bool.or_eq_false_iff, Bool.and_eq_false_iff] at hc4
    refine W_region hT hG [10] [0] ?_
    rw [hnt]
    simp only [baseS, eq_self, implies_true, if_true, if_false, reduceIte, Nat.reduceBEq, Nat.reduceEqDiff, Nat.reduceLT, Nat.reduceAdd, reduceCtorEq, tyInt, tdInt, tyBytes, tdBytes, tyRd, tdRd, setAll, FT.of, Value.cells]
    repeat (refine And.intro ?_ ?_; focus (first | exact ordP (by kernel_rfl) | with_reducible exact rfl | assumption | trivial | (simp only [inR]; omega) | omega | (intro hh; (try obtain ⟨hh1, hh2⟩ := hh); (repeat' apply And.intro) <;> first | assumption | (simp only [inR]; omega) | omega | (intros; (repeat' apply And.intro) <;> first | assumption | (simp only [inR]; omega) | omega)) | (intros; (repeat' apply And.intro) <;> first | assumption | (simp only [inR]; omega) | omega | (simp_all; done) | (simp_all [inR]; omega))))
    refine hK2 _ ?_
    clear hK2
    refine W_seq (fun K5 hK5 => ?_)
    refine W_region hT hG [10] [2] ?_
    rw [hnt]
    simp only [baseS, eq_self, implies_true, if_true, if_false, reduceIte, Nat.reduceBEq, Nat.reduceEqDiff, Nat.reduceLT, Nat.reduceAdd, reduceCtorEq, tyInt, tdInt, tyBytes, tdBytes, tyRd, tdRd, setAll, FT.of, Value.cells]
    repeat (refine And.intro ?_ ?_; focus (first | exact ordP (by kernel_rfl) | with_reducible exact rfl | assumption | trivial | (simp only [inR]; omega) | omega | (intro hh; (try obtain ⟨hh1, hh2⟩ := hh); (repeat' apply And.intro) <;> first | assumption | (simp only [inR]; omega) | omega | (intros; (repeat' apply And.intro) <;> first | assumption | (simp only [inR]; omega) | omega)) | (intros; (repeat' apply And.intro) <;> first | assumption | (simp only [inR]; omega) | omega | (simp_all; done) | (simp_all [inR]; omega))))
    refine hK5 _ ?_
    clear hK5
    refine W_ret ?_
    simp only [thenQ, blockQ, loopQ, retQ, reduceIte, Nat.reduceEqDiff]
    first | exact ret1 11 rfl rfl rfl rfl (.inl rfl) rfl | (rw [take_short (n := 2000) (b := b) (by omega)]; exact ret1 11 rfl rfl rfl rfl (.inl rfl) rfl)
  · try simp only [decide_eq_true_eq, decide_eq_false_iff_not, ne_eq, Decidable.not_not, Bool.not_eq_true', Bool.not_eq_false', Bool.or_eq_true, Bool.and_eq_true, Bool.or_eq_false_iff, Bool.and_eq_false_iff] at hc4
    refine W_skip ?_
    simp only [thenQ, blockQ, loopQ, reduceIte, Nat.reduceEqDiff]
    refine hK2 _ ?_
    clear hK2
    refine W_seq (fun K6 hK6 => ?_)
    refine W_region hT hG [10] [2] ?_
    rw [hnt]
    simp only [baseS, eq_self, implies_true, if_true, if_false, reduceIte, Nat.reduceBEq, Nat.reduceEqDiff, Nat.reduceLT, Nat.reduceAdd, reduceCtorEq, tyInt, tdInt, tyBytes, tdBytes, tyRd, tdRd, setAll, FT.of, Value.cells]
    repeat (refine And.intro ?_ ?_; focus (first | exact ordP (by kernel_rfl) | with_reducible exact rfl | assumption | trivial | (simp only [inR]; omega) | omega | (intro hh; (try obtain ⟨hh1, hh2⟩ := hh); (repeat' apply And.intro) <;> first | assumption | (simp only [inR]; omega) | omega | (intros; (repeat' apply And.intro) <;> first | assumption | (simp only [inR]; omega) | omega)) | (intros; (repeat' apply And.intro) <;> first | assumption | (simp only [inR]; omega) | omega | (simp_all; done) | (simp_all [inR]; omega))))
    refine hK6 _ ?_
    clear hK6
    refine W_ret ?_
    simp only [thenQ, blockQ, loopQ, retQ, reduceIte, Nat.reduceEqDiff]
    first | exact ret1 11 rfl rfl rfl rfl (.inl rfl) rfl | (rw [take_short (n := 2000) (b := b) (by omega)]; exact ret1 11 rfl rfl rfl rfl (.inl rfl) rfl)

/-- Once in n calls on average. -/
def oddB (b : List Int) (p n : Int) : Bool := decide (0 < n) && decide (pickV b p n = n - 1)
def oddP (p n : Int) : Int := if 0 < n then p + 1 else p

def c_spec_l20Rd_odd : Ctr where
  modes := [.m, .v .p]
  al := true
  run := fun xs os => match xs, os with
    | [.int n], [.var [.rs .u8 b, .int p]] => some ⟨codeOK b ∧ (0 ≤ p ∧ p ≤ 1000000) ∧ (-9223372036854775808 ≤ n ∧ n ≤ 9223372036854775807), .bool (oddB b p n), [], [.var [.rs .u8 b, .int (oddP p n)]]⟩
    | _, _ => none
theorem m_spec_l20Rd_odd : Meets Try.prog 60 c_spec_l20Rd_odd := by
  refine meets_of (T := tyT) tyOK Try.func60 (by rfl) rfl (by decide) ?_
  intro args owns R hrun hpre
  simp only [c_spec_l20Rd_odd] at hrun
  split at hrun
  case h_2 => cases hrun
  rename_i n b p
  cases hrun
  try dsimp only at hpre
  refine ⟨⟨[(0, .op 0 0), (1, .int n)], [(0, some (.var [.rs .u8 b, .int p]))], 15⟩, rfl, fun E hP hnt hnp => ?_⟩
  replace hnt : E.nt = 15 := hnt
  replace hnp : E.np = 2 := hnp
  have hT : ∀ t d, tyT t = some d → TyOK E.P t d := hP ▸ tyOK
  have hG : ∀ f C, Γof [(59, c_spec_l20Rd_pick)] f = some C → Meets E.P f C := hΓof (by rw [hP]; exact ⟨m_spec_l20Rd_pick, trivial⟩)
  try simp only [show Try.f60.ntmps = 15 from rfl]
  refine W_seq (fun K1 hK1 => ?_)
  refine W_region hT hG [] [0, 1] ?_
  rw [hnt]
  simp only [baseS, eq_self, implies_true, if_true, if_false, reduceIte, Nat.reduceBEq, Nat.reduceEqDiff, Nat.reduceLT, Nat.reduceAdd, reduceCtorEq, tyInt, tdInt, tyRdP, tdRdP, c_spec_l20Rd_pick]
  repeat (refine And.intro ?_ ?_; focus (first | exact ordP (by kernel_rfl) | with_reducible exact rfl | assumption | trivial | (simp only [inR]; omega) | omega | (intro hh; (try obtain ⟨hh1, hh2⟩ := hh); (repeat' apply And.intro) <;> first | assumption | (simp only [inR]; omega) | omega | (intros; (repeat' apply And.intro) <;> first | assumption | (simp only [inR]; omega) | omega)) | (intros; (repeat' apply And.intro) <;> first | assumption | (simp only [inR]; omega) | omega | (simp_all; done) | (simp_all [inR]; omega))))
  refine hK1 _ ?_
  clear hK1
  refine W_seq (fun K2 hK2 => ?_)
  by_cases hs3 : 0 < n
  · skip
    refine W_region hT hG [100008, 100009, 100010, 100011, 100012, 100013] [0, 4] ?_
    rw [hnt]
    simp only [baseS, eq_self, implies_true, if_true, if_false, reduceIte, Nat.reduceBEq, Nat.reduceEqDiff, Nat.reduceLT, Nat.reduceAdd, reduceCtorEq, tyInt, tdInt, tyRdP, tdRdP, c_spec_l20Rd_pick, decide_eq_true hs3]
    repeat (refine And.intro ?_ ?_; focus (first | exact ordP (by kernel_rfl) | with_reducible exact rfl | assumption | trivial | (simp only [inR]; omega) | omega | (intro hh; (try obtain ⟨hh1, hh2⟩ := hh); (repeat' apply And.intro) <;> first | assumption | (simp only [inR]; omega) | omega | (intros; (repeat' apply And.intro) <;> first | assumption | (simp only [inR]; omega) | omega)) | (intros; (repeat' apply And.intro) <;> first | assumption | (simp only [inR]; omega) | omega | (simp_all; done) | (simp_all [inR]; omega))))
    refine hK2 _ ?_
    clear hK2
    refine W_ret ?_
    simp only [thenQ, blockQ, loopQ, retQ, reduceIte, Nat.reduceEqDiff]
    first | (rw [show oddP p n = p + 1 from if_pos hs3, show oddB b p n = decide (pickV b p n = n - 1) from by simp [oddB, hs3]]; exact retm 0 rfl rfl rfl rfl (.inl rfl) rfl) | (rw [show oddP p n = p from if_neg hs3, show oddB b p n = false from by simp [oddB, hs3]]; exact retm 0 rfl rfl rfl rfl (.inl rfl) rfl)
  · skip
    refine W_region hT hG [200008, 200009, 200010, 200011, 200012, 200013] [0, 4] ?_
    rw [hnt]
    simp only [baseS, eq_self, implies_true, if_true, if_false, reduceIte, Nat.reduceBEq, Nat.reduceEqDiff, Nat.reduceLT, Nat.reduceAdd, reduceCtorEq, tyInt, tdInt, tyRdP, tdRdP, c_spec_l20Rd_pick, decide_eq_false hs3]
    repeat (refine And.intro ?_ ?_; focus (first | exact ordP (by kernel_rfl) | with_reducible exact rfl | assumption | trivial | (simp only [inR]; omega) | omega | (intro hh; (try obtain ⟨hh1, hh2⟩ := hh); (repeat' apply And.intro) <;> first | assumption | (simp only [inR]; omega) | omega | (intros; (repeat' apply And.intro) <;> first | assumption | (simp only [inR]; omega) | omega)) | (intros; (repeat' apply And.intro) <;> first | assumption | (simp only [inR]; omega) | omega | (simp_all; done) | (simp_all [inR]; omega))))
    refine hK2 _ ?_
    clear hK2
    refine W_ret ?_
    simp only [thenQ, blockQ, loopQ, retQ, reduceIte, Nat.reduceEqDiff]
    first | (rw [show oddP p n = p + 1 from if_pos hs3, show oddB b p n = decide (pickV b p n = n - 1) from by simp [oddB, hs3]]; exact retm 0 rfl rfl rfl rfl (.inl rfl) rfl) | (rw [show oddP p n = p from if_neg hs3, show oddB b p n = false from by simp [oddB, hs3]]; exact retm 0 rfl rfl rfl rfl (.inl rfl) rfl)

/-- A drawn ship: three numbers, and where the reader stands behind it. -/
def hullV (b : List Int) (p n : Int) : Int × Int × Int × Int :=
  let x := 1 + pickV b p 4
  let y := 1 + pickV b (p + 1) 3
  let z := 1 + pickV b (p + 2) 3
  if oddB b (p + 3) n = true then
    let q := oddP (p + 3) n
    if pickV b q 3 = 0 then ([0, 5].getD (pickV b (q + 1) 2).toNat 0, y, z, q + 2)
    else if pickV b q 3 = 1 then (x, [0, 4].getD (pickV b (q + 1) 2).toNat 0, z, q + 2)
    else (x, y, [-1, 4].getD (pickV b (q + 1) 2).toNat 0, q + 2)
  else (x, y, z, oddP (p + 3) n)
theorem pick_box {b : List Int} {p n : Int} (h : 1 ≤ n) : 0 ≤ pickV b p n ∧ pickV b p n < n := by
  unfold pickV
  split
  · omega
  · split
    · exact ⟨Int.emod_nonneg _ (by omega), Int.emod_lt_of_pos _ (by omega)⟩
    · exact ⟨Int.emod_nonneg _ (by omega), Int.emod_lt_of_pos _ (by omega)⟩
theorem oddP_box (p n : Int) : p ≤ oddP p n ∧ oddP p n ≤ p + 1 := by unfold oddP; split <;> omega

end Go.Proofs.Ytpiaeckkjdcifaa
