/- Walk over drawn plans behind a port. No condition. -/
import Derived.Test.YtjkghldkemoddaaDrawR
namespace Go.Proofs.Ytjkghldkemoddaa
open Go
set_option linter.unusedVariables false
set_option linter.unusedSimpArgs false

def c_spec_DrawAfterPortR : List AV → List Own → Option (Prop × (CRes → Prop)) := fun xs os => match xs, os with
    | [.rs .u8 b], [] => some (∀ x ∈ b, 0 ≤ x ∧ x ≤ 255, fun R => ∃ (y1 : Int) (y2 : Int) (y3 : Int) (bs : List BoxD) (pl : List Int) (n : Int), R = ⟨True, .tup [.agg [.int y1, .int y2, .int y3], .rs .box bs, .rs .i64 pl, .int n], [], []⟩ ∧ (bs.length ≤ 12 ∧ pl.length ≤ 37 ∧ (-1 ≤ n ∧ n ≤ 7)))
    | _, _ => none
def c_spec_DrawAfterPort : Ctr := ⟨[.v (.r .u8)], true, fun _ _ => none, some c_spec_DrawAfterPortR⟩
theorem m_spec_DrawAfterPort : Meets Try.prog 46 c_spec_DrawAfterPort := by
  refine meetsR_of (T := tyT) tyOK Try.func46 (by rfl) rfl (by decide) ?_
  intro args owns pre S hrun hpre
  simp only [c_spec_DrawAfterPortR] at hrun
  split at hrun
  case h_2 => cases hrun
  rename_i b
  cases hrun
  try dsimp only at hpre
  refine ⟨_, rfl, fun E hP hnt hnp => ?_⟩
  replace hnt : E.nt = 12 := hnt
  replace hnp : E.np = 1 := hnp
  have hT : ∀ t d, tyT t = some d → TyOK E.P t d := hP ▸ tyOK
  have hG : ∀ f C, Γof [(39, c_spec_DrawPortMoves)] f = some C → Meets E.P f C := hΓof (by rw [hP]; exact ⟨m_spec_DrawPortMoves, trivial⟩)
  try simp only [show Try.f46.ntmps = 12 from rfl]
  refine W_seq (fun K1 hK1 => ?_)
  refine W_region hT hG [] [0, 2] ?_
  rw [hnt]
  simp only [baseS, eq_self, implies_true, if_true, if_false, reduceIte, Nat.reduceBEq, Nat.reduceEqDiff, Nat.reduceLT, Nat.reduceAdd, reduceCtorEq, relC, callOK0, callOK1, fzE, c_spec_DrawPortMovesR, tyBytes, tdBytes, tyHull, tdHull, c_spec_DrawPortMoves, storeAV, setAll, FT.of, FT.setf, List.set_cons_zero, List.set_cons_succ, Option.isSome_some, Int.add_assoc, Int.reduceAdd, rowsAV, appAV, srcRows, srcFlat, reduceDIte, room, List.length_append, Nat.reduceLeDiff, elems, Int.mul_assoc]
  repeat (refine And.intro ?_ ?_; focus (first | exact ordP (by kernel_rfl) | with_reducible exact rfl | trivial | assumption | (simp only [inR]; omega) | omega | exact ⟨hc, by omega, by omega⟩ | exact ⟨hc, by omega, by omega, by omega⟩ | exact ⟨_, rfl⟩ | exact ⟨by omega, by omega⟩ | (simp only [List.length_append, List.length_cons, List.length_nil, room]; omega)))
  refine hK1 _ ?_
  clear hK1
  refine W_seq (fun K2 hK2 => ?_)
  refine W_region hT hG [] [2, 3, 4, 5] ?_
  rw [hnt]
  simp only [baseS, eq_self, implies_true, if_true, if_false, reduceIte, Nat.reduceBEq, Nat.reduceEqDiff, Nat.reduceLT, Nat.reduceAdd, reduceCtorEq, relC, callOK0, callOK1, fzE, c_spec_DrawPortMovesR, tyBytes, tdBytes, tyHull, tdHull, c_spec_DrawPortMoves, storeAV, setAll, FT.of, FT.setf, List.set_cons_zero, List.set_cons_succ, Option.isSome_some, Int.add_assoc, Int.reduceAdd, rowsAV, appAV, srcRows, srcFlat, reduceDIte, room, List.length_append, Nat.reduceLeDiff, elems, Int.mul_assoc]
  repeat (refine And.intro ?_ ?_; focus (first | exact ordP (by kernel_rfl) | with_reducible exact rfl | trivial | assumption | (simp only [inR]; omega) | omega | exact ⟨hc, by omega, by omega⟩ | exact ⟨hc, by omega, by omega, by omega⟩ | exact ⟨_, rfl⟩ | exact ⟨by omega, by omega⟩ | (simp only [List.length_append, List.length_cons, List.length_nil, room]; omega)))
  rintro _ ⟨y1, y2, y3, bs, pl, n, rfl, hbl, hpl, hn⟩
  simp only [baseS, eq_self, implies_true, if_true, if_false, reduceIte, Nat.reduceBEq, Nat.reduceEqDiff, Nat.reduceLT, Nat.reduceAdd, reduceCtorEq, relC, callOK0, callOK1, fzE, c_spec_DrawPortMovesR, tyBytes, tdBytes, tyHull, tdHull, c_spec_DrawPortMoves, storeAV, setAll, FT.of, FT.setf, List.set_cons_zero, List.set_cons_succ, Option.isSome_some, Int.add_assoc, Int.reduceAdd, rowsAV, appAV, srcRows, srcFlat, reduceDIte, room, List.length_append, Nat.reduceLeDiff, elems, Int.mul_assoc]
  repeat (refine And.intro ?_ ?_; focus (first | exact ordP (by kernel_rfl) | with_reducible exact rfl | trivial | assumption | (simp only [inR]; omega) | omega | exact ⟨hc, by omega, by omega⟩ | exact ⟨hc, by omega, by omega, by omega⟩ | exact ⟨_, rfl⟩ | exact ⟨by omega, by omega⟩ | (simp only [List.length_append, List.length_cons, List.length_nil, room]; omega)))
  refine hK2 _ ?_
  clear hK2
  refine W_re [(2, .var), (3, .fz .box), (4, .fz .i64), (5, .as)] (by (try simp only [hnt, hnp]); rfl) ?_
  refine W_ret ?_
  simp only [thenQ, blockQ, loopQ, retR, retQ, reduceIte, Nat.reduceEqDiff]
  refine rr6 (ret0 rfl rfl rfl (.inl rfl) rfl) ?_
  exact ⟨hbl, hpl, hn⟩

end Go.Proofs.Ytjkghldkemoddaa
