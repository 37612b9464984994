/- Walks over drawn uses of plugs. No condition. -/
import Derived.Test.YtpiaeckkjdcifaaDrawA
import Derived.Test.YtpiaeckkjdcifaaLists
namespace Go.Proofs.Ytpiaeckkjdcifaa
open Go
set_option linter.unusedVariables false
set_option linter.unusedSimpArgs false

def c_spec_l20UsesR : List AV → List Own → Option (Prop × (CRes → Prop)) := fun xs os => match xs, os with
    | [.int n], [.var [.rs .u8 b, .int p]] => some (codeOK b ∧ (0 ≤ p ∧ p ≤ 900000) ∧ (1 ≤ n ∧ n ≤ 1000), fun R => ∃ (u : List (List Int)) (q : Int), R = ⟨True, .rows u, [], [.var [.rs .u8 b, .int q]]⟩ ∧ ((u.length ≤ 7 ∧ ∀ xs ∈ u, xs.length ≤ 6) ∧ (p ≤ q ∧ q ≤ p + 50)))
    | _, _ => none
def c_spec_l20Uses : Ctr := ⟨[.m, .v .p], true, fun _ _ => none, some c_spec_l20UsesR⟩
theorem m_spec_l20Uses : Meets Try.prog 58 c_spec_l20Uses := by
  refine meetsR_of (T := tyT) tyOK Try.func58 (by rfl) rfl (by decide) ?_
  intro args owns pre S hrun hpre
  simp only [c_spec_l20UsesR] at hrun
  split at hrun
  case h_2 => cases hrun
  rename_i n b p
  cases hrun
  try dsimp only at hpre
  refine ⟨⟨[(0, .op 0 0), (1, .int n)], [(0, some (.var [.rs .u8 b, .int p]))], 56⟩, rfl, fun E hP hnt hnp => ?_⟩
  replace hnt : E.nt = 56 := hnt
  replace hnp : E.np = 2 := hnp
  have hT : ∀ t d, tyT t = some d → TyOK E.P t d := hP ▸ tyOK
  have hG : ∀ f C, Γof [(59, c_spec_l20Rd_pick), (60, c_spec_l20Rd_odd)] f = some C → Meets E.P f C := hΓof (by rw [hP]; exact ⟨m_spec_l20Rd_pick, m_spec_l20Rd_odd, trivial⟩)
  try simp only [show Try.f58.ntmps = 56 from rfl]
  have hc := hpre.1
  have hp := hpre.2.1
  have hn := hpre.2.2
  have h3 := pick_box (b := b) (p := p) (n := 3) (by omega)
  have h7 := pick_box (b := b) (p := p + 1) (n := 7) (by omega)
  refine W_seq (fun K1 hK1 => ?_)
  refine W_region hT hG [300035, 300051, 300042] [0, 1] ?_
  rw [hnt]
  simp only [baseS, eq_self, implies_true, if_true, if_false, reduceIte, Nat.reduceBEq, Nat.reduceEqDiff, Nat.reduceLT, Nat.reduceAdd, reduceCtorEq, tyInt, tdInt, tyRows, tdRows, tyInts, tdInts, tyRdP, tdRdP, c_spec_l20Rd_pick, c_spec_l20Rd_odd, storeAV, setAll, FT.of, List.set_cons_zero, List.set_cons_succ, Option.isSome_some, Int.add_assoc, Int.reduceAdd, rowsAV, appAV, srcRows, srcFlat, reduceDIte, room, List.length_append, Nat.reduceLeDiff, appI, srcI, appAV_I, ownI, anyI, sameR, elems]
  repeat (refine And.intro ?_ ?_; focus (first | exact ordP (by kernel_rfl) | with_reducible exact rfl | trivial | assumption | (simp only [inR]; omega) | omega | exact ⟨hc, by omega, by omega⟩ | exact ⟨_, rfl⟩ | (simp only [List.length_append, List.length_cons, List.length_nil, room]; omega)))
  refine hK1 _ ?_
  clear hK1
  refine W_seq (fun K2 hK2 => ?_)
  refine W_region hT hG [300035, 300051, 300042] [0, 1, 5] ?_
  rw [hnt]
  simp only [baseS, eq_self, implies_true, if_true, if_false, reduceIte, Nat.reduceBEq, Nat.reduceEqDiff, Nat.reduceLT, Nat.reduceAdd, reduceCtorEq, tyInt, tdInt, tyRows, tdRows, tyInts, tdInts, tyRdP, tdRdP, c_spec_l20Rd_pick, c_spec_l20Rd_odd, storeAV, setAll, FT.of, List.set_cons_zero, List.set_cons_succ, Option.isSome_some, Int.add_assoc, Int.reduceAdd, rowsAV, appAV, srcRows, srcFlat, reduceDIte, room, List.length_append, Nat.reduceLeDiff, appI, srcI, appAV_I, ownI, anyI, sameR, elems]
  repeat (refine And.intro ?_ ?_; focus (first | exact ordP (by kernel_rfl) | with_reducible exact rfl | trivial | assumption | (simp only [inR]; omega) | omega | exact ⟨hc, by omega, by omega⟩ | exact ⟨_, rfl⟩ | (simp only [List.length_append, List.length_cons, List.length_nil, room]; omega)))
  refine hK2 _ ?_
  clear hK2
  refine W_seq (fun K3 hK3 => ?_)
  refine W_region hT hG [300035, 300051, 300042] [0, 1, 5, 6] ?_
  rw [hnt]
  simp only [baseS, eq_self, implies_true, if_true, if_false, reduceIte, Nat.reduceBEq, Nat.reduceEqDiff, Nat.reduceLT, Nat.reduceAdd, reduceCtorEq, tyInt, tdInt, tyRows, tdRows, tyInts, tdInts, tyRdP, tdRdP, c_spec_l20Rd_pick, c_spec_l20Rd_odd, storeAV, setAll, FT.of, List.set_cons_zero, List.set_cons_succ, Option.isSome_some, Int.add_assoc, Int.reduceAdd, rowsAV, appAV, srcRows, srcFlat, reduceDIte, room, List.length_append, Nat.reduceLeDiff, appI, srcI, appAV_I, ownI, anyI, sameR, elems]
  repeat (refine And.intro ?_ ?_; focus (first | exact ordP (by kernel_rfl) | with_reducible exact rfl | trivial | assumption | (simp only [inR]; omega) | omega | exact ⟨hc, by omega, by omega⟩ | exact ⟨_, rfl⟩ | (simp only [List.length_append, List.length_cons, List.length_nil, room]; omega)))
  refine hK3 _ ?_
  clear hK3
  refine W_seq (fun K4 hK4 => ?_)
  refine W_seq (fun K5 hK5 => ?_)
  refine W_region hT hG [300035, 300051, 300042] [0, 1, 5, 6, 7] ?_
  rw [hnt]
  simp only [baseS, eq_self, implies_true, if_true, if_false, reduceIte, Nat.reduceBEq, Nat.reduceEqDiff, Nat.reduceLT, Nat.reduceAdd, reduceCtorEq, tyInt, tdInt, tyRows, tdRows, tyInts, tdInts, tyRdP, tdRdP, c_spec_l20Rd_pick, c_spec_l20Rd_odd, storeAV, setAll, FT.of, List.set_cons_zero, List.set_cons_succ, Option.isSome_some, Int.add_assoc, Int.reduceAdd, rowsAV, appAV, srcRows, srcFlat, reduceDIte, room, List.length_append, Nat.reduceLeDiff, appI, srcI, appAV_I, ownI, anyI, sameR, elems]
  repeat (refine And.intro ?_ ?_; focus (first | exact ordP (by kernel_rfl) | with_reducible exact rfl | trivial | assumption | (simp only [inR]; omega) | omega | exact ⟨hc, by omega, by omega⟩ | exact ⟨_, rfl⟩ | (simp only [List.length_append, List.length_cons, List.length_nil, room]; omega)))
  refine hK5 _ ?_
  clear hK5
  refine W_block ?_
  refine W_loop (α := Int × List (List Int) × Int) [(0, .var), (1, .as), (5, .ownr 24), (6, .as), (7, .as)] (fun x => ⟨[(0, .op 0 0), (1, .int n), (5, .sl 5), (6, .int (1 + pickV b p 3)), (7, .int x.1)], [(0, some (.var [.rs .u8 b, .int x.2.2])), (5, some (.rows 24 x.2.1))], 56⟩) (fun x => (0 ≤ x.1 ∧ x.1 ≤ 6) ∧ ((x.2.1.length : Int) + x.1 ≤ 6) ∧ (∀ xs ∈ x.2.1, xs.length ≤ 6) ∧ (p ≤ x.2.2 ∧ x.2.2 ≤ p + 2 + 6 * (6 - x.1))) (fun x => x.1.toNat) (pickV b (p + 1) 7, [], p + 2) ?_ ?_ ?_
  · (try simp only [hnt, hnp]); rfl
  · exact ⟨by dsimp only; omega, by simp only [List.length_nil]; omega, by simp, by dsimp only; omega⟩
  rintro ⟨k, out, q⟩ ⟨hk, hlen, hL, hq⟩
  dsimp only at hk hlen hL hq ⊢
  have ho := oddP_box q n
  refine W_seq (fun K7 hK7 => ?_)
  refine W_seq (fun K8 hK8 => ?_)
  refine W_region hT hG [300035, 300051, 300042] [0, 1, 5, 6, 7, 17] ?_
  rw [hnt]
  simp only [baseS, eq_self, implies_true, if_true, if_false, reduceIte, Nat.reduceBEq, Nat.reduceEqDiff, Nat.reduceLT, Nat.reduceAdd, reduceCtorEq, tyInt, tdInt, tyRows, tdRows, tyInts, tdInts, tyRdP, tdRdP, c_spec_l20Rd_pick, c_spec_l20Rd_odd, storeAV, setAll, FT.of, List.set_cons_zero, List.set_cons_succ, Option.isSome_some, Int.add_assoc, Int.reduceAdd, rowsAV, appAV, srcRows, srcFlat, reduceDIte, room, List.length_append, Nat.reduceLeDiff, appI, srcI, appAV_I, ownI, anyI, sameR, elems]
  repeat (refine And.intro ?_ ?_; focus (first | exact ordP (by kernel_rfl) | with_reducible exact rfl | trivial | assumption | (simp only [inR]; omega) | omega | exact ⟨hc, by omega, by omega⟩ | exact ⟨_, rfl⟩ | (simp only [List.length_append, List.length_cons, List.length_nil, room]; omega)))
  refine hK8 _ ?_
  clear hK8
  refine W_cond (b := _) rfl (fun hc9 => ?_) (fun hc9 => ?_)
  · try simp only [decide_eq_true_eq, decide_eq_false_iff_not, ne_eq, Decidable.not_not, Bool.not_eq_true', Bool.not_eq_false', Bool.or_eq_true, Bool.and_eq_true, Bool.or_eq_false_iff, Bool.and_eq_false_iff] at hc9
    refine W_skip ?_
    simp only [thenQ, blockQ, loopQ, reduceIte, Nat.reduceEqDiff]
    refine hK7 _ ?_
    clear hK7
    refine W_seq (fun K10 hK10 => ?_)
    refine W_block ?_
    refine W_seq (fun K11 hK11 => ?_)
    refine W_region hT hG [300035, 300051, 300042] [0, 1, 5, 6, 7, 8] ?_
    rw [hnt]
    simp only [baseS, eq_self, implies_true, if_true, if_false, reduceIte, Nat.reduceBEq, Nat.reduceEqDiff, Nat.reduceLT, Nat.reduceAdd, reduceCtorEq, tyInt, tdInt, tyRows, tdRows, tyInts, tdInts, tyRdP, tdRdP, c_spec_l20Rd_pick, c_spec_l20Rd_odd, storeAV, setAll, FT.of, List.set_cons_zero, List.set_cons_succ, Option.isSome_some, Int.add_assoc, Int.reduceAdd, rowsAV, appAV, srcRows, srcFlat, reduceDIte, room, List.length_append, Nat.reduceLeDiff, appI, srcI, appAV_I, ownI, anyI, sameR, elems]
    repeat (refine And.intro ?_ ?_; focus (first | exact ordP (by kernel_rfl) | with_reducible exact rfl | trivial | assumption | (simp only [inR]; omega) | omega | exact ⟨hc, by omega, by omega⟩ | exact ⟨_, rfl⟩ | (simp only [List.length_append, List.length_cons, List.length_nil, room]; omega)))
    refine hK11 _ ?_
    clear hK11
    refine W_seq (fun K12 hK12 => ?_)
    refine W_seq (fun K13 hK13 => ?_)
    refine W_region hT hG [300035, 300051, 300042] [0, 1, 5, 6, 7, 8, 9] ?_
    rw [hnt]
    simp only [baseS, eq_self, implies_true, if_true, if_false, reduceIte, Nat.reduceBEq, Nat.reduceEqDiff, Nat.reduceLT, Nat.reduceAdd, reduceCtorEq, tyInt, tdInt, tyRows, tdRows, tyInts, tdInts, tyRdP, tdRdP, c_spec_l20Rd_pick, c_spec_l20Rd_odd, storeAV, setAll, FT.of, List.set_cons_zero, List.set_cons_succ, Option.isSome_some, Int.add_assoc, Int.reduceAdd, rowsAV, appAV, srcRows, srcFlat, reduceDIte, room, List.length_append, Nat.reduceLeDiff, appI, srcI, appAV_I, ownI, anyI, sameR, elems]
    repeat (refine And.intro ?_ ?_; focus (first | exact ordP (by kernel_rfl) | with_reducible exact rfl | trivial | assumption | (simp only [inR]; omega) | omega | exact ⟨hc, by omega, by omega⟩ | exact ⟨_, rfl⟩ | (simp only [List.length_append, List.length_cons, List.length_nil, room]; omega)))
    refine hK13 _ ?_
    clear hK13
    refine W_block ?_
    refine W_loop (α := Int × List Int × Int) [(0, .var), (1, .as), (5, .ownr 24), (6, .as), (7, .as), (8, .own 3 .i64), (9, .as)] (fun y => ⟨[(0, .op 0 0), (1, .int n), (5, .sl 5), (6, .int (1 + pickV b p 3)), (7, .int k), (8, .sl 8), (9, .int y.1)], [(0, some (.var [.rs .u8 b, .int y.2.2])), (5, some (.rows 24 out)), (8, some (.sl 3 .i64 y.2.1))], 56⟩) (fun y => (0 ≤ y.1 ∧ y.1 ≤ 6) ∧ ((y.2.1.length : Int) ≤ y.1) ∧ (q ≤ y.2.2 ∧ y.2.2 ≤ q + y.1)) (fun y => (6 - y.1).toNat) (0, [], q) ?_ ?_ ?_
    · (try simp only [hnt, hnp]); rfl
    · exact ⟨by omega, by simp, by dsimp only; omega⟩
    rintro ⟨plug, list, r⟩ ⟨hpl, hll, hr⟩
    dsimp only at hpl hll hr ⊢
    refine W_seq (fun K15 hK15 => ?_)
    refine W_seq (fun K16 hK16 => ?_)
    refine W_region hT hG [300035, 300051, 300042] [0, 1, 5, 6, 7, 8, 9, 22] ?_
    rw [hnt]
    simp only [baseS, eq_self, implies_true, if_true, if_false, reduceIte, Nat.reduceBEq, Nat.reduceEqDiff, Nat.reduceLT, Nat.reduceAdd, reduceCtorEq, tyInt, tdInt, tyRows, tdRows, tyInts, tdInts, tyRdP, tdRdP, c_spec_l20Rd_pick, c_spec_l20Rd_odd, storeAV, setAll, FT.of, List.set_cons_zero, List.set_cons_succ, Option.isSome_some, Int.add_assoc, Int.reduceAdd, rowsAV, appAV, srcRows, srcFlat, reduceDIte, room, List.length_append, Nat.reduceLeDiff, appI, srcI, appAV_I, ownI, anyI, sameR, elems]
    repeat (refine And.intro ?_ ?_; focus (first | exact ordP (by kernel_rfl) | with_reducible exact rfl | trivial | assumption | (simp only [inR]; omega) | omega | exact ⟨hc, by omega, by omega⟩ | exact ⟨_, rfl⟩ | (simp only [List.length_append, List.length_cons, List.length_nil, room]; omega)))
    refine hK16 _ ?_
    clear hK16
    refine W_cond (b := _) rfl (fun hc17 => ?_) (fun hc17 => ?_)
    · try simp only [decide_eq_true_eq, decide_eq_false_iff_not, ne_eq, Decidable.not_not, Bool.not_eq_true', Bool.not_eq_false', Bool.or_eq_true, Bool.and_eq_true, Bool.or_eq_false_iff, Bool.and_eq_false_iff] at hc17
      refine W_skip ?_
      simp only [thenQ, blockQ, loopQ, reduceIte, Nat.reduceEqDiff]
      refine hK15 _ ?_
      clear hK15
      refine W_seq (fun K18 hK18 => ?_)
      refine W_block ?_
      refine W_seq (fun K19 hK19 => ?_)
      refine W_region hT hG [300035, 300051, 300042] [0, 1, 5, 6, 7, 8, 9, 28] ?_
      rw [hnt]
      simp only [baseS, eq_self, implies_true, if_true, if_false, reduceIte, Nat.reduceBEq, Nat.reduceEqDiff, Nat.reduceLT, Nat.reduceAdd, reduceCtorEq, tyInt, tdInt, tyRows, tdRows, tyInts, tdInts, tyRdP, tdRdP, c_spec_l20Rd_pick, c_spec_l20Rd_odd, storeAV, setAll, FT.of, List.set_cons_zero, List.set_cons_succ, Option.isSome_some, Int.add_assoc, Int.reduceAdd, rowsAV, appAV, srcRows, srcFlat, reduceDIte, room, List.length_append, Nat.reduceLeDiff, appI, srcI, appAV_I, ownI, anyI, sameR, elems]
      repeat (refine And.intro ?_ ?_; focus (first | exact ordP (by kernel_rfl) | with_reducible exact rfl | trivial | assumption | (simp only [inR]; omega) | omega | exact ⟨hc, by omega, by omega⟩ | exact ⟨_, rfl⟩ | (simp only [List.length_append, List.length_cons, List.length_nil, room]; omega)))
      refine hK19 _ ?_
      clear hK19
      refine W_cond (b := _) rfl (fun hc20 => ?_) (fun hc20 => ?_)
      · try simp only [decide_eq_true_eq, decide_eq_false_iff_not, ne_eq, Decidable.not_not, Bool.not_eq_true', Bool.not_eq_false', Bool.or_eq_true, Bool.and_eq_true, Bool.or_eq_false_iff, Bool.and_eq_false_iff] at hc20
        refine W_region hT hG [300035, 300051, 300042] [0, 1, 5, 6, 7, 8, 9] ?_
        rw [hnt]
        simp only [baseS, eq_self, implies_true, if_true, if_false, reduceIte, Nat.reduceBEq, Nat.reduceEqDiff, Nat.reduceLT, Nat.reduceAdd, reduceCtorEq, tyInt, tdInt, tyRows, tdRows, tyInts, tdInts, tyRdP, tdRdP, c_spec_l20Rd_pick, c_spec_l20Rd_odd, storeAV, setAll, FT.of, List.set_cons_zero, List.set_cons_succ, Option.isSome_some, Int.add_assoc, Int.reduceAdd, rowsAV, appAV, srcRows, srcFlat, reduceDIte, room, List.length_append, Nat.reduceLeDiff, appI, srcI, appAV_I, ownI, anyI, sameR, elems]
        repeat (refine And.intro ?_ ?_; focus (first | exact ordP (by kernel_rfl) | with_reducible exact rfl | trivial | assumption | (simp only [inR]; omega) | omega | exact ⟨hc, by omega, by omega⟩ | exact ⟨_, rfl⟩ | (simp only [List.length_append, List.length_cons, List.length_nil, room]; omega)))
        refine hK18 _ ?_
        clear hK18
        refine W_region hT hG [300035, 300051, 300042] [0, 1, 5, 6, 7, 8, 9] ?_
        rw [hnt]
        simp only [baseS, eq_self, implies_true, if_true, if_false, reduceIte, Nat.reduceBEq, Nat.reduceEqDiff, Nat.reduceLT, Nat.reduceAdd, reduceCtorEq, tyInt, tdInt, tyRows, tdRows, tyInts, tdInts, tyRdP, tdRdP, c_spec_l20Rd_pick, c_spec_l20Rd_odd, storeAV, setAll, FT.of, List.set_cons_zero, List.set_cons_succ, Option.isSome_some, Int.add_assoc, Int.reduceAdd, rowsAV, appAV, srcRows, srcFlat, reduceDIte, room, List.length_append, Nat.reduceLeDiff, appI, srcI, appAV_I, ownI, anyI, sameR, elems]
        repeat (refine And.intro ?_ ?_; focus (first | exact ordP (by kernel_rfl) | with_reducible exact rfl | trivial | assumption | (simp only [inR]; omega) | omega | exact ⟨hc, by omega, by omega⟩ | exact ⟨_, rfl⟩ | (simp only [List.length_append, List.length_cons, List.length_nil, room]; omega)))
        first
        | (refine ⟨(plug + 1, list ++ [plug], r + 1), (by (try simp only [hnt, hnp]); rfl), ⟨by dsimp only; omega, by simp only [List.length_append, List.length_cons, List.length_nil]; omega, by dsimp only; omega⟩, by dsimp only; omega⟩)
        | (refine ⟨(plug + 1, list, r + 1), (by (try simp only [hnt, hnp]); rfl), ⟨by dsimp only; omega, by dsimp only; omega, by dsimp only; omega⟩, by dsimp only; omega⟩)
      · try simp only [decide_eq_true_eq, decide_eq_false_iff_not, ne_eq, Decidable.not_not, Bool.not_eq_true', Bool.not_eq_false', Bool.or_eq_true, Bool.and_eq_true, Bool.or_eq_false_iff, Bool.and_eq_false_iff] at hc20
        refine W_skip ?_
        simp only [thenQ, blockQ, loopQ, reduceIte, Nat.reduceEqDiff]
        refine hK18 _ ?_
        clear hK18
        refine W_region hT hG [300035, 300051, 300042] [0, 1, 5, 6, 7, 8, 9] ?_
        rw [hnt]
        simp only [baseS, eq_self, implies_true, if_true, if_false, reduceIte, Nat.reduceBEq, Nat.reduceEqDiff, Nat.reduceLT, Nat.reduceAdd, reduceCtorEq, tyInt, tdInt, tyRows, tdRows, tyInts, tdInts, tyRdP, tdRdP, c_spec_l20Rd_pick, c_spec_l20Rd_odd, storeAV, setAll, FT.of, List.set_cons_zero, List.set_cons_succ, Option.isSome_some, Int.add_assoc, Int.reduceAdd, rowsAV, appAV, srcRows, srcFlat, reduceDIte, room, List.length_append, Nat.reduceLeDiff, appI, srcI, appAV_I, ownI, anyI, sameR, elems]
        repeat (refine And.intro ?_ ?_; focus (first | exact ordP (by kernel_rfl) | with_reducible exact rfl | trivial | assumption | (simp only [inR]; omega) | omega | exact ⟨hc, by omega, by omega⟩ | exact ⟨_, rfl⟩ | (simp only [List.length_append, List.length_cons, List.length_nil, room]; omega)))
        first
        | (refine ⟨(plug + 1, list ++ [plug], r + 1), (by (try simp only [hnt, hnp]); rfl), ⟨by dsimp only; omega, by simp only [List.length_append, List.length_cons, List.length_nil]; omega, by dsimp only; omega⟩, by dsimp only; omega⟩)
        | (refine ⟨(plug + 1, list, r + 1), (by (try simp only [hnt, hnp]); rfl), ⟨by dsimp only; omega, by dsimp only; omega, by dsimp only; omega⟩, by dsimp only; omega⟩)
    · try simp only [decide_eq_true_eq, decide_eq_false_iff_not, ne_eq, Decidable.not_not, Bool.not_eq_true', Bool.not_eq_false', Bool.or_eq_true, Bool.and_eq_true, Bool.or_eq_false_iff, Bool.and_eq_false_iff] at hc17
      refine W_exit ?_
      simp only [thenQ, blockQ, loopQ, reduceIte, Nat.reduceEqDiff]
      refine hK12 _ ?_
      clear hK12
      refine W_re (st' := ⟨[(0, .op 0 0), (1, .int n), (5, .sl 5), (6, .int (1 + pickV b p 3)), (7, .int k), (8, .rs .i64 list)], [(0, some (.var [.rs .u8 b, .int r])), (5, some (.rows 24 out))], 56⟩) [(0, .var), (1, .as), (5, .ownr 24), (6, .as), (7, .as), (8, .fz .i64)] (by (try simp only [hnt, hnp]); rfl) ?_
      refine W_region hT hG [300035, 300051, 300042] [0, 1, 5, 6, 7] ?_
      rw [hnt]
      simp only [baseS, eq_self, implies_true, if_true, if_false, reduceIte, Nat.reduceBEq, Nat.reduceEqDiff, Nat.reduceLT, Nat.reduceAdd, reduceCtorEq, tyInt, tdInt, tyRows, tdRows, tyInts, tdInts, tyRdP, tdRdP, c_spec_l20Rd_pick, c_spec_l20Rd_odd, storeAV, setAll, FT.of, List.set_cons_zero, List.set_cons_succ, Option.isSome_some, Int.add_assoc, Int.reduceAdd, rowsAV, appAV, srcRows, srcFlat, reduceDIte, room, List.length_append, Nat.reduceLeDiff, appI, srcI, appAV_I, ownI, anyI, sameR, elems]
      repeat (refine And.intro ?_ ?_; focus (first | exact ordP (by kernel_rfl) | with_reducible exact rfl | trivial | assumption | (simp only [inR]; omega) | omega | exact ⟨hc, by omega, by omega⟩ | exact ⟨_, rfl⟩ | (simp only [List.length_append, List.length_cons, List.length_nil, room]; omega)))
      refine hK10 _ ?_
      clear hK10
      refine W_region hT hG [300035, 300051, 300042] [0, 1, 5, 6, 7] ?_
      rw [hnt]
      simp only [baseS, eq_self, implies_true, if_true, if_false, reduceIte, Nat.reduceBEq, Nat.reduceEqDiff, Nat.reduceLT, Nat.reduceAdd, reduceCtorEq, tyInt, tdInt, tyRows, tdRows, tyInts, tdInts, tyRdP, tdRdP, c_spec_l20Rd_pick, c_spec_l20Rd_odd, storeAV, setAll, FT.of, List.set_cons_zero, List.set_cons_succ, Option.isSome_some, Int.add_assoc, Int.reduceAdd, rowsAV, appAV, srcRows, srcFlat, reduceDIte, room, List.length_append, Nat.reduceLeDiff, appI, srcI, appAV_I, ownI, anyI, sameR, elems]
      repeat (refine And.intro ?_ ?_; focus (first | exact ordP (by kernel_rfl) | with_reducible exact rfl | trivial | assumption | (simp only [inR]; omega) | omega | exact ⟨hc, by omega, by omega⟩ | exact ⟨_, rfl⟩ | (simp only [List.length_append, List.length_cons, List.length_nil, room]; omega)))
      refine ⟨(k - 1, out ++ [list], r), (by (try simp only [hnt, hnp]); rfl), ⟨by dsimp only; omega, by simp only [List.length_append, List.length_cons, List.length_nil]; omega, ?_, by dsimp only; omega⟩, by dsimp only; omega⟩
      intro xs hxs
      rcases List.mem_append.1 hxs with h | h
      · exact hL xs h
      · simp only [List.mem_singleton] at h; subst h; omega
  · try simp only [decide_eq_true_eq, decide_eq_false_iff_not, ne_eq, Decidable.not_not, Bool.not_eq_true', Bool.not_eq_false', Bool.or_eq_true, Bool.and_eq_true, Bool.or_eq_false_iff, Bool.and_eq_false_iff] at hc9
    refine W_exit ?_
    simp only [thenQ, blockQ, loopQ, reduceIte, Nat.reduceEqDiff]
    refine hK4 _ ?_
    clear hK4
    refine W_seq (fun K21 hK21 => ?_)
    refine W_seq (fun K22 hK22 => ?_)
    refine W_region hT hG [300035, 300051, 300042] [0, 5, 39] ?_
    rw [hnt]
    simp only [baseS, eq_self, implies_true, if_true, if_false, reduceIte, Nat.reduceBEq, Nat.reduceEqDiff, Nat.reduceLT, Nat.reduceAdd, reduceCtorEq, tyInt, tdInt, tyRows, tdRows, tyInts, tdInts, tyRdP, tdRdP, c_spec_l20Rd_pick, c_spec_l20Rd_odd, storeAV, setAll, FT.of, List.set_cons_zero, List.set_cons_succ, Option.isSome_some, Int.add_assoc, Int.reduceAdd, rowsAV, appAV, srcRows, srcFlat, reduceDIte, room, List.length_append, Nat.reduceLeDiff, appI, srcI, appAV_I, ownI, anyI, sameR, elems]
    repeat (refine And.intro ?_ ?_; focus (first | exact ordP (by kernel_rfl) | with_reducible exact rfl | trivial | assumption | (simp only [inR]; omega) | omega | exact ⟨hc, by omega, by omega⟩ | exact ⟨_, rfl⟩ | (simp only [List.length_append, List.length_cons, List.length_nil, room]; omega)))
    refine hK22 _ ?_
    clear hK22
    refine W_cond (b := _) rfl (fun hc23 => ?_) (fun hc23 => ?_)
    · try simp only [decide_eq_true_eq, decide_eq_false_iff_not, ne_eq, Decidable.not_not, Bool.not_eq_true', Bool.not_eq_false', Bool.or_eq_true, Bool.and_eq_true, Bool.or_eq_false_iff, Bool.and_eq_false_iff] at hc23
      refine W_seq (fun K24 hK24 => ?_)
      refine W_region hT hG [300035, 300051, 300042] [0, 5, 41] ?_
      rw [hnt]
      simp only [baseS, eq_self, implies_true, if_true, if_false, reduceIte, Nat.reduceBEq, Nat.reduceEqDiff, Nat.reduceLT, Nat.reduceAdd, reduceCtorEq, tyInt, tdInt, tyRows, tdRows, tyInts, tdInts, tyRdP, tdRdP, c_spec_l20Rd_pick, c_spec_l20Rd_odd, storeAV, setAll, FT.of, List.set_cons_zero, List.set_cons_succ, Option.isSome_some, Int.add_assoc, Int.reduceAdd, rowsAV, appAV, srcRows, srcFlat, reduceDIte, room, List.length_append, Nat.reduceLeDiff, appI, srcI, appAV_I, ownI, anyI, sameR, elems]
      repeat (refine And.intro ?_ ?_; focus (first | exact ordP (by kernel_rfl) | with_reducible exact rfl | trivial | assumption | (simp only [inR]; omega) | omega | exact ⟨hc, by omega, by omega⟩ | exact ⟨_, rfl⟩ | (simp only [List.length_append, List.length_cons, List.length_nil, room]; omega)))
      refine hK24 _ ?_
      clear hK24
      refine W_block ?_
      refine W_seq (fun K25 hK25 => ?_)
      refine W_region hT hG [300035, 300051, 300042] [0, 5, 41, 46] ?_
      rw [hnt]
      simp only [baseS, eq_self, implies_true, if_true, if_false, reduceIte, Nat.reduceBEq, Nat.reduceEqDiff, Nat.reduceLT, Nat.reduceAdd, reduceCtorEq, tyInt, tdInt, tyRows, tdRows, tyInts, tdInts, tyRdP, tdRdP, c_spec_l20Rd_pick, c_spec_l20Rd_odd, storeAV, setAll, FT.of, List.set_cons_zero, List.set_cons_succ, Option.isSome_some, Int.add_assoc, Int.reduceAdd, rowsAV, appAV, srcRows, srcFlat, reduceDIte, room, List.length_append, Nat.reduceLeDiff, appI, srcI, appAV_I, ownI, anyI, sameR, elems]
      repeat (refine And.intro ?_ ?_; focus (first | exact ordP (by kernel_rfl) | with_reducible exact rfl | trivial | assumption | (simp only [inR]; omega) | omega | exact ⟨hc, by omega, by omega⟩ | exact ⟨_, rfl⟩ | (simp only [List.length_append, List.length_cons, List.length_nil, room]; omega)))
      refine hK25 _ ?_
      clear hK25
      refine W_cond (b := _) rfl (fun hc26 => ?_) (fun hc26 => ?_)
      · try simp only [decide_eq_true_eq, decide_eq_false_iff_not, ne_eq, Decidable.not_not, Bool.not_eq_true', Bool.not_eq_false', Bool.or_eq_true, Bool.and_eq_true, Bool.or_eq_false_iff, Bool.and_eq_false_iff] at hc26
        refine W_seq (fun K27 hK27 => ?_)
        refine W_region hT hG [300035, 300051, 300042] [0, 4] ?_
        rw [hnt]
        simp only [baseS, eq_self, implies_true, if_true, if_false, reduceIte, Nat.reduceBEq, Nat.reduceEqDiff, Nat.reduceLT, Nat.reduceAdd, reduceCtorEq, tyInt, tdInt, tyRows, tdRows, tyInts, tdInts, tyRdP, tdRdP, c_spec_l20Rd_pick, c_spec_l20Rd_odd, storeAV, setAll, FT.of, List.set_cons_zero, List.set_cons_succ, Option.isSome_some, Int.add_assoc, Int.reduceAdd, rowsAV, appAV, srcRows, srcFlat, reduceDIte, room, List.length_append, Nat.reduceLeDiff, appI, srcI, appAV_I, ownI, anyI, sameR, elems]
        repeat (refine And.intro ?_ ?_; focus (first | exact ordP (by kernel_rfl) | with_reducible exact rfl | trivial | assumption | (simp only [inR]; omega) | omega | exact ⟨hc, by omega, by omega⟩ | exact ⟨_, rfl⟩ | (simp only [List.length_append, List.length_cons, List.length_nil, room]; omega)))
        refine hK27 _ ?_
        clear hK27
        refine W_re [(0, .var), (4, .fzr)] (by (try simp only [hnt, hnp]); rfl) ?_
        refine W_ret ?_
        simp only [thenQ, blockQ, loopQ, retR, retQ, reduceIte, Nat.reduceEqDiff]
        refine rr2 (retm 0 rfl rfl rfl rfl (.inl rfl) rfl) ?_
        refine ⟨⟨?_, ?_⟩, by omega, by omega⟩
        · first | (simp; done) | (simp only [List.length_append, List.length_cons, List.length_nil]; omega) | omega
        · first | exact hL | (intro xs hxs; rw [List.mem_replicate] at hxs; rw [hxs.2]; simp; done) | (intro xs hxs; rcases List.mem_cons.1 hxs with h | h; (· subst h; decide); (· exact hL xs h))
      · try simp only [decide_eq_true_eq, decide_eq_false_iff_not, ne_eq, Decidable.not_not, Bool.not_eq_true', Bool.not_eq_false', Bool.or_eq_true, Bool.and_eq_true, Bool.or_eq_false_iff, Bool.and_eq_false_iff] at hc26
        refine W_seq (fun K28 hK28 => ?_)
        refine W_region hT hG [300035, 300051, 300042] [0, 5, 49] ?_
        rw [hnt]
        simp only [baseS, eq_self, implies_true, if_true, if_false, reduceIte, Nat.reduceBEq, Nat.reduceEqDiff, Nat.reduceLT, Nat.reduceAdd, reduceCtorEq, tyInt, tdInt, tyRows, tdRows, tyInts, tdInts, tyRdP, tdRdP, c_spec_l20Rd_pick, c_spec_l20Rd_odd, storeAV, setAll, FT.of, List.set_cons_zero, List.set_cons_succ, Option.isSome_some, Int.add_assoc, Int.reduceAdd, rowsAV, appAV, srcRows, srcFlat, reduceDIte, room, List.length_append, Nat.reduceLeDiff, appI, srcI, appAV_I, ownI, anyI, sameR, elems]
        repeat (refine And.intro ?_ ?_; focus (first | exact ordP (by kernel_rfl) | with_reducible exact rfl | trivial | assumption | (simp only [inR]; omega) | omega | exact ⟨hc, by omega, by omega⟩ | exact ⟨_, rfl⟩ | (simp only [List.length_append, List.length_cons, List.length_nil, room]; omega)))
        refine hK28 _ ?_
        clear hK28
        refine W_cond (b := _) rfl (fun hc29 => ?_) (fun hc29 => ?_)
        · try simp only [decide_eq_true_eq, decide_eq_false_iff_not, ne_eq, Decidable.not_not, Bool.not_eq_true', Bool.not_eq_false', Bool.or_eq_true, Bool.and_eq_true, Bool.or_eq_false_iff, Bool.and_eq_false_iff] at hc29
          refine W_seq (fun K30 hK30 => ?_)
          refine W_re (st' := ⟨[(0, .op 0 0), (5, .rows out)], [(0, some (.var [.rs .u8 b, .int (oddP q n + 1)]))], 56⟩) [(0, .var), (5, .fzr)] (by (try simp only [hnt, hnp]); rfl) ?_
          refine W_region hT hG [300035, 300051, 300042] [0, 4] ?_
          rw [hnt]
          simp only [baseS, eq_self, implies_true, if_true, if_false, reduceIte, Nat.reduceBEq, Nat.reduceEqDiff, Nat.reduceLT, Nat.reduceAdd, reduceCtorEq, tyInt, tdInt, tyRows, tdRows, tyInts, tdInts, tyRdP, tdRdP, c_spec_l20Rd_pick, c_spec_l20Rd_odd, storeAV, setAll, FT.of, List.set_cons_zero, List.set_cons_succ, Option.isSome_some, Int.add_assoc, Int.reduceAdd, rowsAV, appAV, srcRows, srcFlat, reduceDIte, room, List.length_append, Nat.reduceLeDiff, appI, srcI, appAV_I, ownI, anyI, sameR, elems]
          repeat (refine And.intro ?_ ?_; focus (first | exact ordP (by kernel_rfl) | with_reducible exact rfl | trivial | assumption | (simp only [inR]; omega) | omega | exact ⟨hc, by omega, by omega⟩ | exact ⟨_, rfl⟩ | (simp only [List.length_append, List.length_cons, List.length_nil, room]; omega)))
          refine hK30 _ ?_
          clear hK30
          refine W_re [(0, .var), (4, .fzr)] (by (try simp only [hnt, hnp]); rfl) ?_
          refine W_ret ?_
          simp only [thenQ, blockQ, loopQ, retR, retQ, reduceIte, Nat.reduceEqDiff]
          refine rr2 (retm 0 rfl rfl rfl rfl (.inl rfl) rfl) ?_
          refine ⟨⟨?_, ?_⟩, by omega, by omega⟩
          · first | (simp; done) | (simp only [List.length_append, List.length_cons, List.length_nil]; omega) | omega
          · first | exact hL | (intro xs hxs; rw [List.mem_replicate] at hxs; rw [hxs.2]; simp; done) | (intro xs hxs; rcases List.mem_cons.1 hxs with h | h; (· subst h; decide); (· exact hL xs h))
        · try simp only [decide_eq_true_eq, decide_eq_false_iff_not, ne_eq, Decidable.not_not, Bool.not_eq_true', Bool.not_eq_false', Bool.or_eq_true, Bool.and_eq_true, Bool.or_eq_false_iff, Bool.and_eq_false_iff] at hc29
          refine W_seq (fun K31 hK31 => ?_)
          refine W_re (st' := ⟨[(0, .op 0 0), (5, .rows out)], [(0, some (.var [.rs .u8 b, .int (oddP q n + 1)]))], 56⟩) [(0, .var), (5, .fzr)] (by (try simp only [hnt, hnp]); rfl) ?_
          refine W_region hT hG [300035, 300051, 300042] [0, 4] ?_
          rw [hnt]
          simp only [baseS, eq_self, implies_true, if_true, if_false, reduceIte, Nat.reduceBEq, Nat.reduceEqDiff, Nat.reduceLT, Nat.reduceAdd, reduceCtorEq, tyInt, tdInt, tyRows, tdRows, tyInts, tdInts, tyRdP, tdRdP, c_spec_l20Rd_pick, c_spec_l20Rd_odd, storeAV, setAll, FT.of, List.set_cons_zero, List.set_cons_succ, Option.isSome_some, Int.add_assoc, Int.reduceAdd, rowsAV, appAV, srcRows, srcFlat, reduceDIte, room, List.length_append, Nat.reduceLeDiff, appI, srcI, appAV_I, ownI, anyI, sameR, elems]
          repeat (refine And.intro ?_ ?_; focus (first | exact ordP (by kernel_rfl) | with_reducible exact rfl | trivial | assumption | (simp only [inR]; omega) | omega | exact ⟨hc, by omega, by omega⟩ | exact ⟨_, rfl⟩ | (simp only [List.length_append, List.length_cons, List.length_nil, room]; omega)))
          refine hK31 _ ?_
          clear hK31
          refine W_re [(0, .var), (4, .fzr)] (by (try simp only [hnt, hnp]); rfl) ?_
          refine W_ret ?_
          simp only [thenQ, blockQ, loopQ, retR, retQ, reduceIte, Nat.reduceEqDiff]
          refine rr2 (retm 0 rfl rfl rfl rfl (.inl rfl) rfl) ?_
          refine ⟨⟨?_, ?_⟩, by omega, by omega⟩
          · first | (simp; done) | (simp only [List.length_append, List.length_cons, List.length_nil]; omega) | omega
          · first | exact hL | (intro xs hxs; rw [List.mem_replicate] at hxs; rw [hxs.2]; simp; done) | (intro xs hxs; rcases List.mem_cons.1 hxs with h | h; (· subst h; decide); (· exact hL xs h))
    · try simp only [decide_eq_true_eq, decide_eq_false_iff_not, ne_eq, Decidable.not_not, Bool.not_eq_true', Bool.not_eq_false', Bool.or_eq_true, Bool.and_eq_true, Bool.or_eq_false_iff, Bool.and_eq_false_iff] at hc23
      refine W_skip ?_
      simp only [thenQ, blockQ, loopQ, reduceIte, Nat.reduceEqDiff]
      refine hK21 _ ?_
      clear hK21
      refine W_seq (fun K32 hK32 => ?_)
      refine W_region hT hG [300035, 300051, 300042] [0, 4] ?_
      rw [hnt]
      simp only [baseS, eq_self, implies_true, if_true, if_false, reduceIte, Nat.reduceBEq, Nat.reduceEqDiff, Nat.reduceLT, Nat.reduceAdd, reduceCtorEq, tyInt, tdInt, tyRows, tdRows, tyInts, tdInts, tyRdP, tdRdP, c_spec_l20Rd_pick, c_spec_l20Rd_odd, storeAV, setAll, FT.of, List.set_cons_zero, List.set_cons_succ, Option.isSome_some, Int.add_assoc, Int.reduceAdd, rowsAV, appAV, srcRows, srcFlat, reduceDIte, room, List.length_append, Nat.reduceLeDiff, appI, srcI, appAV_I, ownI, anyI, sameR, elems]
      repeat (refine And.intro ?_ ?_; focus (first | exact ordP (by kernel_rfl) | with_reducible exact rfl | trivial | assumption | (simp only [inR]; omega) | omega | exact ⟨hc, by omega, by omega⟩ | exact ⟨_, rfl⟩ | (simp only [List.length_append, List.length_cons, List.length_nil, room]; omega)))
      refine hK32 _ ?_
      clear hK32
      refine W_re [(0, .var), (4, .fzr)] (by (try simp only [hnt, hnp]); rfl) ?_
      refine W_ret ?_
      simp only [thenQ, blockQ, loopQ, retR, retQ, reduceIte, Nat.reduceEqDiff]
      refine rr2 (retm 0 rfl rfl rfl rfl (.inl rfl) rfl) ?_
      refine ⟨⟨?_, ?_⟩, by omega, by omega⟩
      · first | (simp; done) | (simp only [List.length_append, List.length_cons, List.length_nil]; omega) | omega
      · first | exact hL | (intro xs hxs; rw [List.mem_replicate] at hxs; rw [hxs.2]; simp; done) | (intro xs hxs; rcases List.mem_cons.1 hxs with h | h; (· subst h; decide); (· exact hL xs h))

def c_spec_DrawPlugManyR : List AV → List Own → Option (Prop × (CRes → Prop)) := fun xs os => match xs, os with
    | [.rs .u8 b], [] => some (∀ x ∈ b, 0 ≤ x ∧ x ≤ 255, fun R => ∃ (u : List (List Int)), R = ⟨True, .rows u, [], []⟩ ∧ (u.length ≤ 7 ∧ ∀ xs ∈ u, xs.length ≤ 6))
    | _, _ => none
def c_spec_DrawPlugMany : Ctr := ⟨[.v (.r .u8)], true, fun _ _ => none, some c_spec_DrawPlugManyR⟩
theorem m_spec_DrawPlugMany : Meets Try.prog 20 c_spec_DrawPlugMany := by
  refine meetsR_of (T := tyT) tyOK Try.func20 (by rfl) rfl (by decide) ?_
  intro args owns pre S hrun hpre
  simp only [c_spec_DrawPlugManyR] at hrun
  split at hrun
  case h_2 => cases hrun
  rename_i b
  cases hrun
  try dsimp only at hpre
  refine ⟨_, rfl, fun E hP hnt hnp => ?_⟩
  replace hnt : E.nt = 6 := hnt
  replace hnp : E.np = 1 := hnp
  have hT : ∀ t d, tyT t = some d → TyOK E.P t d := hP ▸ tyOK
  have hG : ∀ f C, Γof [(57, c_spec_l20Open), (58, c_spec_l20Uses)] f = some C → Meets E.P f C := hΓof (by rw [hP]; exact ⟨m_spec_l20Open, m_spec_l20Uses, trivial⟩)
  try simp only [show Try.f20.ntmps = 6 from rfl]
  have hc := code_take hpre
  refine W_seq (fun K1 hK1 => ?_)
  refine W_region hT hG [] [0] ?_
  rw [hnt]
  simp only [baseS, eq_self, implies_true, if_true, if_false, reduceIte, Nat.reduceBEq, Nat.reduceEqDiff, Nat.reduceLT, Nat.reduceAdd, reduceCtorEq, relC, callOK0, callOK1, fzE, c_spec_l20UsesR, tyInt, tdInt, tyBytes, tdBytes, tyRdP, tdRdP, c_spec_l20Open, c_spec_l20Uses, storeAV, setAll, FT.of, List.set_cons_zero, List.set_cons_succ, Option.isSome_some, Int.add_assoc, Int.reduceAdd, rowsAV, appAV, srcRows, srcFlat, reduceDIte, room, List.length_append, Nat.reduceLeDiff, appI, srcI, appAV_I, ownI, anyI, sameR, elems]
  repeat (refine And.intro ?_ ?_; focus (first | exact ordP (by kernel_rfl) | with_reducible exact rfl | trivial | assumption | (simp only [inR]; omega) | omega | exact ⟨hc, by omega, by omega⟩ | exact ⟨_, rfl⟩ | (simp only [List.length_append, List.length_cons, List.length_nil, room]; omega)))
  refine hK1 _ ?_
  clear hK1
  refine W_seq (fun K2 hK2 => ?_)
  refine W_region hT hG [] [2] ?_
  rw [hnt]
  simp only [baseS, eq_self, implies_true, if_true, if_false, reduceIte, Nat.reduceBEq, Nat.reduceEqDiff, Nat.reduceLT, Nat.reduceAdd, reduceCtorEq, relC, callOK0, callOK1, fzE, c_spec_l20UsesR, tyInt, tdInt, tyBytes, tdBytes, tyRdP, tdRdP, c_spec_l20Open, c_spec_l20Uses, storeAV, setAll, FT.of, List.set_cons_zero, List.set_cons_succ, Option.isSome_some, Int.add_assoc, Int.reduceAdd, rowsAV, appAV, srcRows, srcFlat, reduceDIte, room, List.length_append, Nat.reduceLeDiff, appI, srcI, appAV_I, ownI, anyI, sameR, elems]
  repeat (refine And.intro ?_ ?_; focus (first | exact ordP (by kernel_rfl) | with_reducible exact rfl | trivial | assumption | (simp only [inR]; omega) | omega | exact ⟨hc, by omega, by omega⟩ | exact ⟨_, rfl⟩ | (simp only [List.length_append, List.length_cons, List.length_nil, room]; omega)))
  rintro _ ⟨u, q, rfl, hg, hq⟩
  simp only [baseS, eq_self, implies_true, if_true, if_false, reduceIte, Nat.reduceBEq, Nat.reduceEqDiff, Nat.reduceLT, Nat.reduceAdd, reduceCtorEq, relC, callOK0, callOK1, fzE, c_spec_l20UsesR, tyInt, tdInt, tyBytes, tdBytes, tyRdP, tdRdP, c_spec_l20Open, c_spec_l20Uses, storeAV, setAll, FT.of, List.set_cons_zero, List.set_cons_succ, Option.isSome_some, Int.add_assoc, Int.reduceAdd, rowsAV, appAV, srcRows, srcFlat, reduceDIte, room, List.length_append, Nat.reduceLeDiff, appI, srcI, appAV_I, ownI, anyI, sameR, elems]
  repeat (refine And.intro ?_ ?_; focus (first | exact ordP (by kernel_rfl) | with_reducible exact rfl | trivial | assumption | (simp only [inR]; omega) | omega | exact ⟨hc, by omega, by omega⟩ | exact ⟨_, rfl⟩ | (simp only [List.length_append, List.length_cons, List.length_nil, room]; omega)))
  refine hK2 _ ?_
  clear hK2
  refine W_ret ?_
  simp only [thenQ, blockQ, loopQ, retR, retQ, reduceIte, Nat.reduceEqDiff]
  refine rr1 (ret0 rfl rfl rfl (.inl rfl) rfl) ?_
  exact hg

end Go.Proofs.Ytpiaeckkjdcifaa
