/- Walks over the plugs of some lists, the result owned; marks on clipped slices. No condition. -/
import Derived.Test.YtpiklifnbbhleaaUses
import Derived.Test.YtpiklifnbbhleaaLists
import Derived.Test.YtpiklifnbbhleaaClip
import Derived.Test.YtpiklifnbbhleaaMarks
namespace Go.Proofs.Ytpiklifnbbhleaa
open Go
set_option linter.unusedVariables false
set_option linter.unusedSimpArgs false

theorem asc_ext : ∀ (l m : List Int), l.Pairwise (· < ·) → m.Pairwise (· < ·) → (∀ x, x ∈ l ↔ x ∈ m) → l = m
  | [], [], _, _, _ => rfl
  | [], y :: ys, _, _, h => by have := (h y).2 (by simp); simp at this
  | x :: xs, [], _, _, h => by have := (h x).1 (by simp); simp at this
  | x :: xs, y :: ys, h1, h2, h => by
    rw [List.pairwise_cons] at h1 h2
    have e : x = y := by
      rcases List.mem_cons.1 ((h x).1 (by simp)) with h3 | h3
      · exact h3
      · rcases List.mem_cons.1 ((h y).2 (by simp)) with h4 | h4
        · exact h4.symm
        · have := h1.1 y h4
          have := h2.1 x h3
          omega
    subst e
    rw [asc_ext xs ys h1.2 h2.2 (fun z => ⟨fun hz => ?_, fun hz => ?_⟩)]
    · rcases List.mem_cons.1 ((h z).1 (List.mem_cons_of_mem _ hz)) with h3 | h3
      · subst h3; have := h1.1 _ hz; omega
      · exact h3
    · rcases List.mem_cons.1 ((h z).2 (List.mem_cons_of_mem _ hz)) with h3 | h3
      · subst h3; have := h2.1 _ hz; omega
      · exact h3
theorem keeps_iff (zs : List Int) {j : Nat} (hj : j < zs.length) : Go.Lib.keeps zs.toArray j = true ↔ j = 0 ∨ zs.getD j 0 ≠ zs.getD (j - 1) 0 := by
  have g : ∀ k, k < zs.length → zs.toArray[k]! = zs.getD k 0 := fun k hk => by
    rw [getElem!_pos _ k (by simpa using hk), List.getD_eq_getElem?_getD, List.getElem?_eq_getElem hk]; simp
  unfold Go.Lib.keeps
  rw [g j hj, g (j - 1) (by omega)]
  simp
theorem compact_eq (zs : List Int) : Go.Lib.compact zs = ((List.range zs.length).filter (Go.Lib.keeps zs.toArray)).map (fun k => zs.getD k 0) := by
  unfold Go.Lib.compact Go.Lib.compactUpTo
  refine List.map_congr_left (fun k hk => ?_)
  have hk := List.mem_range.1 (List.mem_filter.1 hk).1
  rw [getElem!_pos _ k (by simpa using hk), List.getD_eq_getElem?_getD, List.getElem?_eq_getElem hk]; simp
theorem compact_mem (zs : List Int) (x : Int) : x ∈ Go.Lib.compact zs ↔ x ∈ zs := by
  rw [compact_eq, List.mem_map]
  constructor
  · rintro ⟨k, hk, rfl⟩
    have hk := List.mem_range.1 (List.mem_filter.1 hk).1
    rw [List.getD_eq_getElem?_getD, List.getElem?_eq_getElem hk]; exact List.getElem_mem hk
  · intro hx
    obtain ⟨j, hj, e⟩ := List.getElem_of_mem hx
    have key : ∀ j, j < zs.length → ∃ k, k ∈ (List.range zs.length).filter (Go.Lib.keeps zs.toArray) ∧ zs.getD k 0 = zs.getD j 0 := by
      intro j
      induction j with
      | zero => intro h; exact ⟨0, List.mem_filter.2 ⟨List.mem_range.2 h, (keeps_iff zs h).2 (.inl rfl)⟩, rfl⟩
      | succ j ih =>
        intro h
        by_cases hk : zs.getD (j + 1) 0 = zs.getD j 0
        · obtain ⟨k, h1, h2⟩ := ih (by omega)
          exact ⟨k, h1, by rw [hk]; exact h2⟩
        · exact ⟨j + 1, List.mem_filter.2 ⟨List.mem_range.2 h, (keeps_iff zs h).2 (.inr (by simpa using hk))⟩, rfl⟩
    obtain ⟨k, h1, h2⟩ := key j hj
    exact ⟨k, h1, by rw [h2, List.getD_eq_getElem?_getD, List.getElem?_eq_getElem hj, ← e]; rfl⟩
theorem compact_asc {zs : List Int} (h : zs.Pairwise (· ≤ ·)) : (Go.Lib.compact zs).Pairwise (· < ·) := by
  have hg : ∀ i j, i ≤ j → j < zs.length → zs.getD i 0 ≤ zs.getD j 0 := fun i j hij hj => by
    rcases Nat.lt_or_ge i j with h1 | h1
    · have := List.pairwise_iff_getElem.1 h i j (by omega) hj h1
      rw [List.getD_eq_getElem?_getD, List.getElem?_eq_getElem (by omega), List.getD_eq_getElem?_getD, List.getElem?_eq_getElem hj]; exact this
    · rw [show i = j by omega]; exact Int.le_refl _
  rw [compact_eq, List.pairwise_map, List.pairwise_filter]
  refine (List.Pairwise.and_mem.1 List.pairwise_lt_range).imp (fun {a b} hab ha hb => ?_)
  obtain ⟨ham, hbm, hab⟩ := hab
  have hbl := List.mem_range.1 hbm
  have h1 := (keeps_iff zs hbl).1 hb
  have h2 := hg (b - 1) b (by omega) hbl
  have h3 := hg a (b - 1) (by omega) (by omega)
  rcases h1 with h1 | h1
  · omega
  · omega
theorem sortL_asc (zs : List Int) : (sortL zs).Pairwise (· ≤ ·) := by
  have h := List.pairwise_mergeSort (le := fun x y : Int => decide (x ≤ y)) (fun a b c h1 h2 => by simp only [decide_eq_true_eq] at *; omega) (fun a b => by simp only [Bool.or_eq_true, decide_eq_true_eq]; omega) zs
  exact h.imp (fun h => by simpa using h)
theorem sortL_mem (zs : List Int) (x : Int) : x ∈ sortL zs ↔ x ∈ zs := List.mem_mergeSort
theorem rowB_in {xs : List Int} (h : rowB xs = true) : (∀ x ∈ xs, 0 ≤ x ∧ x ≤ 5) ∧ xs.length ≤ 6 := by
  have hk := rowB_iff.1 h
  have hin : ∀ k, k < xs.length → 0 ≤ xs.getD k 0 ∧ xs.getD k 0 ≤ 5 := fun k hl => by
    have := hk k hl
    simp only [okAt, Bool.and_eq_true, decide_eq_true_eq] at this
    exact this.1
  have hup : ∀ k : Nat, k < xs.length → (k : Int) ≤ xs.getD k 0 := by
    intro k
    induction k with
    | zero => intro hl; exact (hin 0 hl).1
    | succ k ih =>
      intro hl
      have h1 := ih (by omega)
      have := hk (k + 1) hl
      simp only [okAt, Bool.and_eq_true, Bool.or_eq_true, decide_eq_true_eq, Nat.add_sub_cancel] at this
      have h2 := this.2.resolve_left (by omega)
      omega
  refine ⟨fun x hx => ?_, ?_⟩
  · obtain ⟨k, hl, rfl⟩ := List.getElem_of_mem hx
    have := hin k hl
    rw [List.getD_eq_getElem?_getD, List.getElem?_eq_getElem hl] at this
    exact this
  · rcases Nat.lt_or_ge 6 xs.length with h1 | h1
    · have h2 := hup 6 (by omega)
      have h3 := hin 6 (by omega)
      omega
    · exact h1
theorem usesB_row {u : List (List Int)} (h : usesB u = true) (i : Nat) : (∀ x ∈ u.getD i [], 0 ≤ x ∧ x ≤ 5) ∧ (u.getD i []).length ≤ 6 := by
  simp only [usesB, Bool.and_eq_true, List.all_eq_true] at h
  by_cases hi : i < u.length
  · refine rowB_in (h.1 _ ?_)
    rw [List.getD_eq_getElem?_getD, List.getElem?_eq_getElem hi]; exact List.getElem_mem hi
  · rw [List.getD_eq_getElem?_getD, List.getElem?_eq_none (by omega)]; simp
/-- The plugs of some lists. -/
def hasPl (u : List (List Int)) (s : List Int) (p : Int) : Bool := s.any fun i => decide (p ∈ u.getD i.toNat [])
def plugsF (u : List (List Int)) (s : List Int) : Nat → List Int
  | 0 => []
  | n + 1 => if hasPl u s (n : Int) = true then plugsF u s n ++ [(n : Int)] else plugsF u s n
def idxB (u : List (List Int)) (s : List Int) : Bool := s.all fun i => decide (0 ≤ i ∧ i ≤ (u.length : Int) - 1)
def plugsR (u : List (List Int)) (s : List Int) : List Int := if usesB u = true ∧ idxB u s = true then plugsF u s 6 else []
theorem plugsF_mem {u : List (List Int)} {s : List Int} {x : Int} : ∀ n : Nat, x ∈ plugsF u s n ↔ (0 ≤ x ∧ x < n) ∧ hasPl u s x = true
  | 0 => by simp only [plugsF, List.not_mem_nil, false_iff]; omega
  | n + 1 => by
    have ih := plugsF_mem (u := u) (s := s) (x := x) n
    rw [plugsF]
    split
    · rename_i h
      rw [List.mem_append, List.mem_singleton, ih]
      constructor
      · rintro (⟨h1, h2⟩ | rfl)
        · exact ⟨by omega, h2⟩
        · exact ⟨by omega, h⟩
      · rintro ⟨h1, h2⟩
        by_cases e : x = n
        · exact .inr e
        · exact .inl ⟨by omega, h2⟩
    · rename_i h
      rw [ih]
      constructor
      · rintro ⟨h1, h2⟩; exact ⟨by omega, h2⟩
      · rintro ⟨h1, h2⟩
        refine ⟨?_, h2⟩
        have : x ≠ n := fun e => h (e ▸ h2)
        omega
theorem plugsF_asc {u : List (List Int)} {s : List Int} : ∀ n : Nat, (plugsF u s n).Pairwise (· < ·)
  | 0 => List.Pairwise.nil
  | n + 1 => by
    rw [plugsF]
    split
    · rw [List.pairwise_append]
      refine ⟨plugsF_asc n, List.pairwise_singleton _ _, fun a ha b hb => ?_⟩
      rw [List.mem_singleton] at hb
      have := (plugsF_mem n).1 ha
      omega
    · exact plugsF_asc n
theorem plugsF_len {u : List (List Int)} {s : List Int} : ∀ n : Nat, (plugsF u s n).length ≤ n
  | 0 => Nat.le_refl _
  | n + 1 => by
    have := plugsF_len (u := u) (s := s) n
    rw [plugsF]
    split
    · rw [List.length_append]; simp; omega
    · omega
theorem plugsR_len (u : List (List Int)) (s : List Int) : (plugsR u s).length ≤ 6 := by
  unfold plugsR; split
  · exact plugsF_len 6
  · simp
def catU (u : List (List Int)) (s : List Int) : List Int := s.flatMap fun i => u.getD i.toNat []
theorem hasPl_iff {u : List (List Int)} {s : List Int} {x : Int} : hasPl u s x = true ↔ x ∈ catU u s := by
  simp only [hasPl, catU, List.any_eq_true, decide_eq_true_eq, List.mem_flatMap]
theorem catU_step {u : List (List Int)} {s : List Int} {i : Int} (h0 : 0 ≤ i) (h : i < s.length) : catU u (s.take (i + 1).toNat) = catU u (s.take i.toNat) ++ u.getD (s.getD i.toNat 0).toNat [] := by
  have e : (i + 1).toNat = i.toNat + 1 := by omega
  have hi : i.toNat < s.length := by omega
  have hs : s.getD i.toNat 0 = s[i.toNat] := by rw [List.getD_eq_getElem?_getD, List.getElem?_eq_getElem hi]; rfl
  rw [e, List.take_add_one, List.getElem?_eq_getElem hi, hs]
  simp only [catU, List.flatMap_append, Option.toList_some, List.flatMap_cons, List.flatMap_nil, List.append_nil]
theorem catU_len {u : List (List Int)} (h : usesB u = true) : ∀ s : List Int, (catU u s).length ≤ 6 * s.length
  | [] => by simp [catU]
  | i :: s => by
    have h1 := catU_len h s
    have h2 := (usesB_row h i.toNat).2
    simp only [catU, List.flatMap_cons, List.length_append, List.length_cons] at h1 ⊢
    omega
theorem plugs_eq {u : List (List Int)} {s : List Int} (h : usesB u = true) (hi : idxB u s = true) : Go.Lib.compact (sortL (catU u s)) = plugsR u s := by
  rw [plugsR, if_pos ⟨h, hi⟩]
  refine asc_ext _ _ (compact_asc (sortL_asc _)) (plugsF_asc 6) (fun x => ?_)
  rw [compact_mem, sortL_mem, plugsF_mem, hasPl_iff]
  constructor
  · intro hx
    refine ⟨?_, hx⟩
    simp only [catU, List.mem_flatMap] at hx
    obtain ⟨i, _, hx⟩ := hx
    have := (usesB_row h i.toNat).1 x hx
    omega
  · rintro ⟨_, hx⟩; exact hx
theorem idx_next {u : List (List Int)} {s : List Int} {i : Int} (h0 : 0 ≤ i) (h : i < s.length) (hI : idxB u (s.take i.toNat) = true) (h1 : 0 ≤ s.getD i.toNat 0 ∧ s.getD i.toNat 0 ≤ (u.length : Int) - 1) : idxB u (s.take (i + 1).toNat) = true := by
  have e : (i + 1).toNat = i.toNat + 1 := by omega
  have hi : i.toNat < s.length := by omega
  rw [List.getD_eq_getElem?_getD, List.getElem?_eq_getElem hi] at h1
  have h2 : decide (0 ≤ s[i.toNat] ∧ s[i.toNat] ≤ (u.length : Int) - 1) = true := decide_eq_true h1
  rw [e, List.take_add_one, List.getElem?_eq_getElem hi]
  simp only [idxB, List.all_append, Option.toList_some, List.all_cons, List.all_nil, Bool.and_true, Bool.and_eq_true] at hI ⊢
  exact ⟨hI, h2⟩
theorem idx_bad {u : List (List Int)} {s : List Int} {i : Int} (h0 : 0 ≤ i) (h : i < s.length) (h1 : ¬ (0 ≤ s.getD i.toNat 0 ∧ s.getD i.toNat 0 ≤ (u.length : Int) - 1)) : plugsR u s = [] := by
  have hi : i.toNat < s.length := by omega
  unfold plugsR
  rw [if_neg]
  rintro ⟨_, h2⟩
  simp only [idxB, List.all_eq_true, decide_eq_true_eq] at h2
  refine h1 (h2 _ ?_)
  rw [List.getD_eq_getElem?_getD, List.getElem?_eq_getElem hi]; exact List.getElem_mem hi
theorem plugs_no {u : List (List Int)} {s : List Int} (h : usesB u = false) : plugsR u s = [] := by
  unfold plugsR
  rw [if_neg]; rintro ⟨h1, _⟩; rw [h] at h1; cases h1
theorem has_step {u : List (List Int)} {s : List Int} {i p : Int} (h0 : 0 ≤ i) (h : i < s.length) : hasPl u (s.take (i + 1).toNat) p = (hasPl u (s.take i.toNat) p || decide (p ∈ u.getD (s.getD i.toNat 0).toNat [])) := by
  have e : (i + 1).toNat = i.toNat + 1 := by omega
  have hi : i.toNat < s.length := by omega
  have hs : s.getD i.toNat 0 = s[i.toNat] := by rw [List.getD_eq_getElem?_getD, List.getElem?_eq_getElem hi]; rfl
  rw [e, List.take_add_one, List.getElem?_eq_getElem hi, hs]
  simp only [hasPl, List.any_append, Option.toList_some, List.any_cons, List.any_nil, Bool.or_false]

theorem ret1c {fn : Func} {C : Ctr} {pre : Prop} {e : TypeId} {xs ys : List Int} {st : AState} (k : Nat) (h : resAV tyT st fn.results.toList = some (.sl k)) (hm : mIdx 0 C.modes = []) (ho : applyUps st.H noH k = some (.cl e xs)) (e' : xs = ys) : ∃ rs, RetOK tyT fn C ⟨pre, .sl 0, [.cl e ys], []⟩ rs st := by
  subst e'; exact ret1 k h rfl hm ho (.inr ⟨rfl, rfl⟩) rfl

def c_impl_PlugsOfo : Ctr where
  modes := [.v .rr, .v (.r .i64)]
  al := false
  run := fun xs os => match xs, os with
    | [.rows u, .rs .i64 s], [] => some ⟨(u.length ≤ 9223372036854775807 ∧ ∀ xs ∈ u, xs.length ≤ 9223372036854775807) ∧ s.length ≤ 1000000000, .sl 0, [.cl 3 (plugsR u s)], []⟩
    | _, _ => none
theorem m_impl_PlugsOfo : Meets Try.prog 16 c_impl_PlugsOfo := by
  refine meets_of (T := tyT) tyOK Try.func16 (by rfl) rfl (by decide) ?_
  intro args owns R hrun hpre
  simp only [c_impl_PlugsOfo] at hrun
  split at hrun
  case h_2 => cases hrun
  rename_i u s
  cases hrun
  try dsimp only at hpre
  refine ⟨_, rfl, fun E hP hnt hnp => ?_⟩
  replace hnt : E.nt = 35 := hnt
  replace hnp : E.np = 2 := hnp
  have hT : ∀ t d, tyT t = some d → TyOK E.P t d := hP ▸ tyOK
  have hG : ∀ f C, Γof [(20, c_impl_UsesValid), (24, c_impl_within)] f = some C → Meets E.P f C := hΓof (by rw [hP]; exact ⟨m_impl_UsesValid, m_impl_within, trivial⟩)
  try simp only [show Try.f16.ntmps = 35 from rfl]
  have hrow := fun i => row_le hpre.1.2 i
  have hp0 := hpre.1
  have hp1 := hpre.2
  refine W_seq (fun K1 hK1 => ?_)
  refine W_region hT hG [] [0, 1] ?_
  rw [hnt]
  simp only [baseS, eq_self, implies_true, if_true, if_false, reduceIte, Nat.reduceBEq, Nat.reduceEqDiff, Nat.reduceLT, Nat.reduceAdd, reduceCtorEq, tyInt, tdInt, tyRows, tdRows, tyInts, tdInts, c_impl_UsesValid, c_impl_within, decide_false, room, Nat.reduceLeDiff, Nat.zero_le, storeAV, rowQ, ownInts, FT.of, FT.setf, elems, appAV_I, appI, srcI, ownI, anyI, sameR, appAV_P, appP, srcP, ownP, anyP]
  repeat (refine And.intro ?_ ?_; focus (first | exact ordP (by kernel_rfl) | with_reducible exact rfl | assumption | trivial | (simp only [inR]; omega) | omega | exact ⟨by omega, by omega⟩ | exact ⟨by omega, by omega, by omega⟩ | exact hp0 | ((try simp only [decide_eq_true_eq, Bool.and_eq_true, ne_eq, decide_not, Bool.not_eq_true', Bool.not_eq_false', Bool.or_eq_false_iff, Bool.not_not, decide_eq_false_iff_not]); (try intro hh); (repeat' apply And.intro) <;> (first | omega | (simp only [inR]; omega) | assumption | exact hp0 | exact hh.1 | exact hh.2 | exact hh.2.1 | exact hh.2.2 | exact hh.1.1 | exact hh.1.2 | (intro hq; exact ⟨hh, hq⟩) | (intro hq; exact ⟨hh.1, hq⟩) | (simp_all; done)))))
  refine hK1 _ ?_
  clear hK1
  refine W_seq (fun K2 hK2 => ?_)
  refine W_seq (fun K3 hK3 => ?_)
  refine W_region hT hG [] [0, 1, 10] ?_
  rw [hnt]
  simp only [baseS, eq_self, implies_true, if_true, if_false, reduceIte, Nat.reduceBEq, Nat.reduceEqDiff, Nat.reduceLT, Nat.reduceAdd, reduceCtorEq, tyInt, tdInt, tyRows, tdRows, tyInts, tdInts, c_impl_UsesValid, c_impl_within, decide_false, room, Nat.reduceLeDiff, Nat.zero_le, storeAV, rowQ, ownInts, FT.of, FT.setf, elems, appAV_I, appI, srcI, ownI, anyI, sameR, appAV_P, appP, srcP, ownP, anyP]
  repeat (refine And.intro ?_ ?_; focus (first | exact ordP (by kernel_rfl) | with_reducible exact rfl | assumption | trivial | (simp only [inR]; omega) | omega | exact ⟨by omega, by omega⟩ | exact ⟨by omega, by omega, by omega⟩ | exact hp0 | ((try simp only [decide_eq_true_eq, Bool.and_eq_true, ne_eq, decide_not, Bool.not_eq_true', Bool.not_eq_false', Bool.or_eq_false_iff, Bool.not_not, decide_eq_false_iff_not]); (try intro hh); (repeat' apply And.intro) <;> (first | omega | (simp only [inR]; omega) | assumption | exact hp0 | exact hh.1 | exact hh.2 | exact hh.2.1 | exact hh.2.2 | exact hh.1.1 | exact hh.1.2 | (intro hq; exact ⟨hh, hq⟩) | (intro hq; exact ⟨hh.1, hq⟩) | (simp_all; done)))))
  refine hK3 _ ?_
  clear hK3
  refine W_cond (b := _) rfl (fun hc4 => ?_) (fun hc4 => ?_)
  · try simp only [decide_eq_true_eq, decide_eq_false_iff_not, ne_eq, Decidable.not_not, Bool.not_eq_true', Bool.not_eq_false', Bool.or_eq_true, Bool.and_eq_true, Bool.or_eq_false_iff, Bool.and_eq_false_iff] at hc4
    refine W_seq (fun K5 hK5 => ?_)
    refine W_region_mid 1 0 hT hG [] [] [4] ?_
    rw [hnt]
    simp only [baseS, eq_self, implies_true, if_true, if_false, reduceIte, Nat.reduceBEq, Nat.reduceEqDiff, Nat.reduceLT, Nat.reduceAdd, reduceCtorEq, tyInt, tdInt, tyRows, tdRows, tyInts, tdInts, c_impl_UsesValid, c_impl_within, decide_false, room, Nat.reduceLeDiff, Nat.zero_le, storeAV, rowQ, ownInts, FT.of, FT.setf, elems, appAV_I, appI, srcI, ownI, anyI, sameR, appAV_P, appP, srcP, ownP, anyP, List.take_succ_cons, List.take_zero, List.drop_succ_cons, List.drop_zero, List.take_nil, List.drop_nil]
    repeat (refine And.intro ?_ ?_; focus (first | exact ordP (by kernel_rfl) | with_reducible exact rfl | assumption | trivial | (simp only [inR]; omega) | omega | exact ⟨by omega, by omega⟩ | exact ⟨by omega, by omega, by omega⟩ | exact hp0 | ((try simp only [decide_eq_true_eq, Bool.and_eq_true, ne_eq, decide_not, Bool.not_eq_true', Bool.not_eq_false', Bool.or_eq_false_iff, Bool.not_not, decide_eq_false_iff_not]); (try intro hh); (repeat' apply And.intro) <;> (first | omega | (simp only [inR]; omega) | assumption | exact hp0 | exact hh.1 | exact hh.2 | exact hh.2.1 | exact hh.2.2 | exact hh.1.1 | exact hh.1.2 | (intro hq; exact ⟨hh, hq⟩) | (intro hq; exact ⟨hh.1, hq⟩) | (simp_all; done)))))
    refine Mid.intro (hol_nilcl (d := 4) 3 rfl) ?_
    try rw [hnt]
    simp only [Mid2, baseS, eq_self, implies_true, if_true, if_false, reduceIte, Nat.reduceBEq, Nat.reduceEqDiff, Nat.reduceLT, Nat.reduceAdd, reduceCtorEq, tyInt, tdInt, tyRows, tdRows, tyInts, tdInts, c_impl_UsesValid, c_impl_within, decide_false, room, Nat.reduceLeDiff, Nat.zero_le, storeAV, rowQ, ownInts, FT.of, FT.setf, elems, appAV_I, appI, srcI, ownI, anyI, sameR, appAV_P, appP, srcP, ownP, anyP, List.take_succ_cons, List.take_zero, List.drop_succ_cons, List.drop_zero, List.take_nil, List.drop_nil]
    repeat (refine And.intro ?_ ?_; focus (first | exact ordP (by kernel_rfl) | with_reducible exact rfl | assumption | trivial | (simp only [inR]; omega) | omega | exact ⟨by omega, by omega⟩ | exact ⟨by omega, by omega, by omega⟩ | exact hp0 | ((try simp only [decide_eq_true_eq, Bool.and_eq_true, ne_eq, decide_not, Bool.not_eq_true', Bool.not_eq_false', Bool.or_eq_false_iff, Bool.not_not, decide_eq_false_iff_not]); (try intro hh); (repeat' apply And.intro) <;> (first | omega | (simp only [inR]; omega) | assumption | exact hp0 | exact hh.1 | exact hh.2 | exact hh.2.1 | exact hh.2.2 | exact hh.1.1 | exact hh.1.2 | (intro hq; exact ⟨hh, hq⟩) | (intro hq; exact ⟨hh.1, hq⟩) | (simp_all; done)))))
    refine hK5 _ ?_
    clear hK5
    refine W_re [(4, .ownr 3)] (by (try simp only [hnt, hnp]); rfl) ?_
    refine W_ret ?_
    simp only [thenQ, blockQ, loopQ, retQ, reduceIte, Nat.reduceEqDiff]
    refine ret1c 4 rfl rfl rfl ?_
    first | (rw [plugs_no hc4]; done) | (rw [idx_bad hi0 HCPREV hc4]; done) | (have e : s.take i.toNat = s := List.take_of_length_le (by omega); rw [hO, e]; rw [e] at hix; exact plugs_eq hc4 hix)
  · try simp only [decide_eq_true_eq, decide_eq_false_iff_not, ne_eq, Decidable.not_not, Bool.not_eq_true', Bool.not_eq_false', Bool.or_eq_true, Bool.and_eq_true, Bool.or_eq_false_iff, Bool.and_eq_false_iff] at hc4
    refine W_skip ?_
    simp only [thenQ, blockQ, loopQ, reduceIte, Nat.reduceEqDiff]
    refine hK2 _ ?_
    clear hK2
    refine W_seq (fun K6 hK6 => ?_)
    refine W_region hT hG [] [0, 1, 5] ?_
    rw [hnt]
    simp only [baseS, eq_self, implies_true, if_true, if_false, reduceIte, Nat.reduceBEq, Nat.reduceEqDiff, Nat.reduceLT, Nat.reduceAdd, reduceCtorEq, tyInt, tdInt, tyRows, tdRows, tyInts, tdInts, c_impl_UsesValid, c_impl_within, decide_false, room, Nat.reduceLeDiff, Nat.zero_le, storeAV, rowQ, ownInts, FT.of, FT.setf, elems, appAV_I, appI, srcI, ownI, anyI, sameR, appAV_P, appP, srcP, ownP, anyP]
    repeat (refine And.intro ?_ ?_; focus (first | exact ordP (by kernel_rfl) | with_reducible exact rfl | assumption | trivial | (simp only [inR]; omega) | omega | exact ⟨by omega, by omega⟩ | exact ⟨by omega, by omega, by omega⟩ | exact hp0 | ((try simp only [decide_eq_true_eq, Bool.and_eq_true, ne_eq, decide_not, Bool.not_eq_true', Bool.not_eq_false', Bool.or_eq_false_iff, Bool.not_not, decide_eq_false_iff_not]); (try intro hh); (repeat' apply And.intro) <;> (first | omega | (simp only [inR]; omega) | assumption | exact hp0 | exact hh.1 | exact hh.2 | exact hh.2.1 | exact hh.2.2 | exact hh.1.1 | exact hh.1.2 | (intro hq; exact ⟨hh, hq⟩) | (intro hq; exact ⟨hh.1, hq⟩) | (simp_all; done)))))
    refine hK6 _ ?_
    clear hK6
    refine W_seq (fun K7 hK7 => ?_)
    refine W_seq (fun K8 hK8 => ?_)
    refine W_region hT hG [] [0, 5, 11, 12, 13] ?_
    rw [hnt]
    simp only [baseS, eq_self, implies_true, if_true, if_false, reduceIte, Nat.reduceBEq, Nat.reduceEqDiff, Nat.reduceLT, Nat.reduceAdd, reduceCtorEq, tyInt, tdInt, tyRows, tdRows, tyInts, tdInts, c_impl_UsesValid, c_impl_within, decide_false, room, Nat.reduceLeDiff, Nat.zero_le, storeAV, rowQ, ownInts, FT.of, FT.setf, elems, appAV_I, appI, srcI, ownI, anyI, sameR, appAV_P, appP, srcP, ownP, anyP]
    repeat (refine And.intro ?_ ?_; focus (first | exact ordP (by kernel_rfl) | with_reducible exact rfl | assumption | trivial | (simp only [inR]; omega) | omega | exact ⟨by omega, by omega⟩ | exact ⟨by omega, by omega, by omega⟩ | exact hp0 | ((try simp only [decide_eq_true_eq, Bool.and_eq_true, ne_eq, decide_not, Bool.not_eq_true', Bool.not_eq_false', Bool.or_eq_false_iff, Bool.not_not, decide_eq_false_iff_not]); (try intro hh); (repeat' apply And.intro) <;> (first | omega | (simp only [inR]; omega) | assumption | exact hp0 | exact hh.1 | exact hh.2 | exact hh.2.1 | exact hh.2.2 | exact hh.1.1 | exact hh.1.2 | (intro hq; exact ⟨hh, hq⟩) | (intro hq; exact ⟨hh.1, hq⟩) | (simp_all; done)))))
    refine hK8 _ ?_
    clear hK8
    refine W_block ?_
    refine W_loop (α := Int × List Int) [(0, .as), (5, .own 3 .i64), (11, .as), (12, .as), (13, .as)] (fun x => ⟨[(0, .rows u), (5, .sl 5), (11, .rs .i64 s), (12, .int s.length), (13, .int x.1)], [(5, some (.sl 3 .i64 x.2))], 35⟩) (fun x => 0 ≤ x.1 ∧ x.1 ≤ s.length ∧ idxB u (s.take x.1.toNat) = true ∧ x.2 = catU u (s.take x.1.toNat)) (fun x => (s.length - x.1).toNat) (0, []) ?_ ?_ ?_
    · (try simp only [hnt, hnp]); rfl
    · exact ⟨by omega, by omega, rfl, rfl⟩
    rintro ⟨i, out⟩ ⟨hi0, hi1, hix, hO⟩
    dsimp only at hi0 hi1 hix hO ⊢
    have hus := hc4
    have hol : out.length ≤ 6 * s.length := by
      rw [hO]
      have h1 := catU_len hus (s.take i.toNat)
      rw [List.length_take] at h1
      omega
    have hrl := (usesB_row hus (s.getD i.toNat 0).toNat).2
    refine W_seq (fun K10 hK10 => ?_)
    refine W_region hT hG [] [0, 5, 11, 12, 13, 14] ?_
    rw [hnt]
    simp only [baseS, eq_self, implies_true, if_true, if_false, reduceIte, Nat.reduceBEq, Nat.reduceEqDiff, Nat.reduceLT, Nat.reduceAdd, reduceCtorEq, tyInt, tdInt, tyRows, tdRows, tyInts, tdInts, c_impl_UsesValid, c_impl_within, decide_false, room, Nat.reduceLeDiff, Nat.zero_le, storeAV, rowQ, ownInts, FT.of, FT.setf, elems, appAV_I, appI, srcI, ownI, anyI, sameR, appAV_P, appP, srcP, ownP, anyP]
    repeat (refine And.intro ?_ ?_; focus (first | exact ordP (by kernel_rfl) | with_reducible exact rfl | assumption | trivial | (simp only [inR]; omega) | omega | exact ⟨by omega, by omega⟩ | exact ⟨by omega, by omega, by omega⟩ | exact hp0 | ((try simp only [decide_eq_true_eq, Bool.and_eq_true, ne_eq, decide_not, Bool.not_eq_true', Bool.not_eq_false', Bool.or_eq_false_iff, Bool.not_not, decide_eq_false_iff_not]); (try intro hh); (repeat' apply And.intro) <;> (first | omega | (simp only [inR]; omega) | assumption | exact hp0 | exact hh.1 | exact hh.2 | exact hh.2.1 | exact hh.2.2 | exact hh.1.1 | exact hh.1.2 | (intro hq; exact ⟨hh, hq⟩) | (intro hq; exact ⟨hh.1, hq⟩) | (simp_all; done)))))
    refine hK10 _ ?_
    clear hK10
    refine W_seq (fun K11 hK11 => ?_)
    refine W_cond (b := _) rfl (fun hc12 => ?_) (fun hc12 => ?_)
    · try simp only [decide_eq_true_eq, decide_eq_false_iff_not, ne_eq, Decidable.not_not, Bool.not_eq_true', Bool.not_eq_false', Bool.or_eq_true, Bool.and_eq_true, Bool.or_eq_false_iff, Bool.and_eq_false_iff] at hc12
      refine W_skip ?_
      simp only [thenQ, blockQ, loopQ, reduceIte, Nat.reduceEqDiff]
      refine hK11 _ ?_
      clear hK11
      refine W_seq (fun K13 hK13 => ?_)
      refine W_block ?_
      refine W_seq (fun K14 hK14 => ?_)
      refine W_region hT hG [] [0, 5, 7, 11, 12, 13] ?_
      rw [hnt]
      simp only [baseS, eq_self, implies_true, if_true, if_false, reduceIte, Nat.reduceBEq, Nat.reduceEqDiff, Nat.reduceLT, Nat.reduceAdd, reduceCtorEq, tyInt, tdInt, tyRows, tdRows, tyInts, tdInts, c_impl_UsesValid, c_impl_within, decide_false, room, Nat.reduceLeDiff, Nat.zero_le, storeAV, rowQ, ownInts, FT.of, FT.setf, elems, appAV_I, appI, srcI, ownI, anyI, sameR, appAV_P, appP, srcP, ownP, anyP]
      repeat (refine And.intro ?_ ?_; focus (first | exact ordP (by kernel_rfl) | with_reducible exact rfl | assumption | trivial | (simp only [inR]; omega) | omega | exact ⟨by omega, by omega⟩ | exact ⟨by omega, by omega, by omega⟩ | exact hp0 | ((try simp only [decide_eq_true_eq, Bool.and_eq_true, ne_eq, decide_not, Bool.not_eq_true', Bool.not_eq_false', Bool.or_eq_false_iff, Bool.not_not, decide_eq_false_iff_not]); (try intro hh); (repeat' apply And.intro) <;> (first | omega | (simp only [inR]; omega) | assumption | exact hp0 | exact hh.1 | exact hh.2 | exact hh.2.1 | exact hh.2.2 | exact hh.1.1 | exact hh.1.2 | (intro hq; exact ⟨hh, hq⟩) | (intro hq; exact ⟨hh.1, hq⟩) | (simp_all; done)))))
      refine hK14 _ ?_
      clear hK14
      refine W_seq (fun K15 hK15 => ?_)
      refine W_seq (fun K16 hK16 => ?_)
      refine W_region hT hG [] [0, 5, 7, 11, 12, 13, 22] ?_
      rw [hnt]
      simp only [baseS, eq_self, implies_true, if_true, if_false, reduceIte, Nat.reduceBEq, Nat.reduceEqDiff, Nat.reduceLT, Nat.reduceAdd, reduceCtorEq, tyInt, tdInt, tyRows, tdRows, tyInts, tdInts, c_impl_UsesValid, c_impl_within, decide_false, room, Nat.reduceLeDiff, Nat.zero_le, storeAV, rowQ, ownInts, FT.of, FT.setf, elems, appAV_I, appI, srcI, ownI, anyI, sameR, appAV_P, appP, srcP, ownP, anyP]
      repeat (refine And.intro ?_ ?_; focus (first | exact ordP (by kernel_rfl) | with_reducible exact rfl | assumption | trivial | (simp only [inR]; omega) | omega | exact ⟨by omega, by omega⟩ | exact ⟨by omega, by omega, by omega⟩ | exact hp0 | ((try simp only [decide_eq_true_eq, Bool.and_eq_true, ne_eq, decide_not, Bool.not_eq_true', Bool.not_eq_false', Bool.or_eq_false_iff, Bool.not_not, decide_eq_false_iff_not]); (try intro hh); (repeat' apply And.intro) <;> (first | omega | (simp only [inR]; omega) | assumption | exact hp0 | exact hh.1 | exact hh.2 | exact hh.2.1 | exact hh.2.2 | exact hh.1.1 | exact hh.1.2 | (intro hq; exact ⟨hh, hq⟩) | (intro hq; exact ⟨hh.1, hq⟩) | (simp_all; done)))))
      refine hK16 _ ?_
      clear hK16
      refine W_cond (b := _) rfl (fun hc17 => ?_) (fun hc17 => ?_)
      · try simp only [decide_eq_true_eq, decide_eq_false_iff_not, ne_eq, Decidable.not_not, Bool.not_eq_true', Bool.not_eq_false', Bool.or_eq_true, Bool.and_eq_true, Bool.or_eq_false_iff, Bool.and_eq_false_iff] at hc17
        refine W_seq (fun K18 hK18 => ?_)
        refine W_region_mid 1 0 hT hG [] [] [4] ?_
        rw [hnt]
        simp only [baseS, eq_self, implies_true, if_true, if_false, reduceIte, Nat.reduceBEq, Nat.reduceEqDiff, Nat.reduceLT, Nat.reduceAdd, reduceCtorEq, tyInt, tdInt, tyRows, tdRows, tyInts, tdInts, c_impl_UsesValid, c_impl_within, decide_false, room, Nat.reduceLeDiff, Nat.zero_le, storeAV, rowQ, ownInts, FT.of, FT.setf, elems, appAV_I, appI, srcI, ownI, anyI, sameR, appAV_P, appP, srcP, ownP, anyP, List.take_succ_cons, List.take_zero, List.drop_succ_cons, List.drop_zero, List.take_nil, List.drop_nil]
        repeat (refine And.intro ?_ ?_; focus (first | exact ordP (by kernel_rfl) | with_reducible exact rfl | assumption | trivial | (simp only [inR]; omega) | omega | exact ⟨by omega, by omega⟩ | exact ⟨by omega, by omega, by omega⟩ | exact hp0 | ((try simp only [decide_eq_true_eq, Bool.and_eq_true, ne_eq, decide_not, Bool.not_eq_true', Bool.not_eq_false', Bool.or_eq_false_iff, Bool.not_not, decide_eq_false_iff_not]); (try intro hh); (repeat' apply And.intro) <;> (first | omega | (simp only [inR]; omega) | assumption | exact hp0 | exact hh.1 | exact hh.2 | exact hh.2.1 | exact hh.2.2 | exact hh.1.1 | exact hh.1.2 | (intro hq; exact ⟨hh, hq⟩) | (intro hq; exact ⟨hh.1, hq⟩) | (simp_all; done)))))
        refine Mid.intro (hol_nilcl (d := 4) 3 rfl) ?_
        try rw [hnt]
        simp only [Mid2, baseS, eq_self, implies_true, if_true, if_false, reduceIte, Nat.reduceBEq, Nat.reduceEqDiff, Nat.reduceLT, Nat.reduceAdd, reduceCtorEq, tyInt, tdInt, tyRows, tdRows, tyInts, tdInts, c_impl_UsesValid, c_impl_within, decide_false, room, Nat.reduceLeDiff, Nat.zero_le, storeAV, rowQ, ownInts, FT.of, FT.setf, elems, appAV_I, appI, srcI, ownI, anyI, sameR, appAV_P, appP, srcP, ownP, anyP, List.take_succ_cons, List.take_zero, List.drop_succ_cons, List.drop_zero, List.take_nil, List.drop_nil]
        repeat (refine And.intro ?_ ?_; focus (first | exact ordP (by kernel_rfl) | with_reducible exact rfl | assumption | trivial | (simp only [inR]; omega) | omega | exact ⟨by omega, by omega⟩ | exact ⟨by omega, by omega, by omega⟩ | exact hp0 | ((try simp only [decide_eq_true_eq, Bool.and_eq_true, ne_eq, decide_not, Bool.not_eq_true', Bool.not_eq_false', Bool.or_eq_false_iff, Bool.not_not, decide_eq_false_iff_not]); (try intro hh); (repeat' apply And.intro) <;> (first | omega | (simp only [inR]; omega) | assumption | exact hp0 | exact hh.1 | exact hh.2 | exact hh.2.1 | exact hh.2.2 | exact hh.1.1 | exact hh.1.2 | (intro hq; exact ⟨hh, hq⟩) | (intro hq; exact ⟨hh.1, hq⟩) | (simp_all; done)))))
        refine hK18 _ ?_
        clear hK18
        refine W_re [(4, .ownr 3)] (by (try simp only [hnt, hnp]); rfl) ?_
        refine W_ret ?_
        simp only [thenQ, blockQ, loopQ, retQ, reduceIte, Nat.reduceEqDiff]
        refine ret1c 4 rfl rfl rfl ?_
        first | (rw [plugs_no hc17]; done) | (rw [idx_bad hi0 hc12 hc17]; done) | (have e : s.take i.toNat = s := List.take_of_length_le (by omega); rw [hO, e]; rw [e] at hix; exact plugs_eq hc4 hix)
      · try simp only [decide_eq_true_eq, decide_eq_false_iff_not, ne_eq, Decidable.not_not, Bool.not_eq_true', Bool.not_eq_false', Bool.or_eq_true, Bool.and_eq_true, Bool.or_eq_false_iff, Bool.and_eq_false_iff] at hc17
        refine W_skip ?_
        simp only [thenQ, blockQ, loopQ, reduceIte, Nat.reduceEqDiff]
        refine hK15 _ ?_
        clear hK15
        refine W_region hT hG [] [0, 5, 11, 12, 13] ?_
        rw [hnt]
        simp only [baseS, eq_self, implies_true, if_true, if_false, reduceIte, Nat.reduceBEq, Nat.reduceEqDiff, Nat.reduceLT, Nat.reduceAdd, reduceCtorEq, tyInt, tdInt, tyRows, tdRows, tyInts, tdInts, c_impl_UsesValid, c_impl_within, decide_false, room, Nat.reduceLeDiff, Nat.zero_le, storeAV, rowQ, ownInts, FT.of, FT.setf, elems, appAV_I, appI, srcI, ownI, anyI, sameR, appAV_P, appP, srcP, ownP, anyP]
        repeat (refine And.intro ?_ ?_; focus (first | exact ordP (by kernel_rfl) | with_reducible exact rfl | assumption | trivial | (simp only [inR]; omega) | omega | exact ⟨by omega, by omega⟩ | exact ⟨by omega, by omega, by omega⟩ | exact hp0 | ((try simp only [decide_eq_true_eq, Bool.and_eq_true, ne_eq, decide_not, Bool.not_eq_true', Bool.not_eq_false', Bool.or_eq_false_iff, Bool.not_not, decide_eq_false_iff_not]); (try intro hh); (repeat' apply And.intro) <;> (first | omega | (simp only [inR]; omega) | assumption | exact hp0 | exact hh.1 | exact hh.2 | exact hh.2.1 | exact hh.2.2 | exact hh.1.1 | exact hh.1.2 | (intro hq; exact ⟨hh, hq⟩) | (intro hq; exact ⟨hh.1, hq⟩) | (simp_all; done)))))
        refine hK13 _ ?_
        clear hK13
        refine W_region hT hG [] [0, 5, 11, 12, 13] ?_
        rw [hnt]
        simp only [baseS, eq_self, implies_true, if_true, if_false, reduceIte, Nat.reduceBEq, Nat.reduceEqDiff, Nat.reduceLT, Nat.reduceAdd, reduceCtorEq, tyInt, tdInt, tyRows, tdRows, tyInts, tdInts, c_impl_UsesValid, c_impl_within, decide_false, room, Nat.reduceLeDiff, Nat.zero_le, storeAV, rowQ, ownInts, FT.of, FT.setf, elems, appAV_I, appI, srcI, ownI, anyI, sameR, appAV_P, appP, srcP, ownP, anyP]
        repeat (refine And.intro ?_ ?_; focus (first | exact ordP (by kernel_rfl) | with_reducible exact rfl | assumption | trivial | (simp only [inR]; omega) | omega | exact ⟨by omega, by omega⟩ | exact ⟨by omega, by omega, by omega⟩ | exact hp0 | ((try simp only [decide_eq_true_eq, Bool.and_eq_true, ne_eq, decide_not, Bool.not_eq_true', Bool.not_eq_false', Bool.or_eq_false_iff, Bool.not_not, decide_eq_false_iff_not]); (try intro hh); (repeat' apply And.intro) <;> (first | omega | (simp only [inR]; omega) | assumption | exact hp0 | exact hh.1 | exact hh.2 | exact hh.2.1 | exact hh.2.2 | exact hh.1.1 | exact hh.1.2 | (intro hq; exact ⟨hh, hq⟩) | (intro hq; exact ⟨hh.1, hq⟩) | (simp_all; done)))))
        refine ⟨(i + 1, out ++ u.getD (s.getD i.toNat 0).toNat []), (by (try simp only [hnt, hnp]); rfl), ⟨by dsimp only; omega, by dsimp only; omega, by dsimp only; exact idx_next hi0 hc12 hix hc17, by dsimp only; rw [catU_step hi0 hc12, hO]⟩, by dsimp only; omega⟩
    · try simp only [decide_eq_true_eq, decide_eq_false_iff_not, ne_eq, Decidable.not_not, Bool.not_eq_true', Bool.not_eq_false', Bool.or_eq_true, Bool.and_eq_true, Bool.or_eq_false_iff, Bool.and_eq_false_iff] at hc12
      refine W_exit ?_
      simp only [thenQ, blockQ, loopQ, reduceIte, Nat.reduceEqDiff]
      refine hK7 _ ?_
      clear hK7
      refine W_seq (fun K19 hK19 => ?_)
      refine W_region_mid 1 1 hT hG [] [] [5] ?_
      rw [hnt]
      simp only [baseS, eq_self, implies_true, if_true, if_false, reduceIte, Nat.reduceBEq, Nat.reduceEqDiff, Nat.reduceLT, Nat.reduceAdd, reduceCtorEq, tyInt, tdInt, tyRows, tdRows, tyInts, tdInts, c_impl_UsesValid, c_impl_within, decide_false, room, Nat.reduceLeDiff, Nat.zero_le, storeAV, rowQ, ownInts, FT.of, FT.setf, elems, appAV_I, appI, srcI, ownI, anyI, sameR, appAV_P, appP, srcP, ownP, anyP, List.take_succ_cons, List.take_zero, List.drop_succ_cons, List.drop_zero, List.take_nil, List.drop_nil]
      repeat (refine And.intro ?_ ?_; focus (first | exact ordP (by kernel_rfl) | with_reducible exact rfl | assumption | trivial | (simp only [inR]; omega) | omega | exact ⟨by omega, by omega⟩ | exact ⟨by omega, by omega, by omega⟩ | exact hp0 | ((try simp only [decide_eq_true_eq, Bool.and_eq_true, ne_eq, decide_not, Bool.not_eq_true', Bool.not_eq_false', Bool.or_eq_false_iff, Bool.not_not, decide_eq_false_iff_not]); (try intro hh); (repeat' apply And.intro) <;> (first | omega | (simp only [inR]; omega) | assumption | exact hp0 | exact hh.1 | exact hh.2 | exact hh.2.1 | exact hh.2.2 | exact hh.1.1 | exact hh.1.2 | (intro hq; exact ⟨hh, hq⟩) | (intro hq; exact ⟨hh.1, hq⟩) | (simp_all; done)))))
      refine Mid.intro (hol_sorted hP rfl rfl rfl rfl rfl (by rw [hnt]; decide) rfl rfl (by omega)) ?_
      try rw [hnt]
      simp only [Mid2, baseS, eq_self, implies_true, if_true, if_false, reduceIte, Nat.reduceBEq, Nat.reduceEqDiff, Nat.reduceLT, Nat.reduceAdd, reduceCtorEq, tyInt, tdInt, tyRows, tdRows, tyInts, tdInts, c_impl_UsesValid, c_impl_within, decide_false, room, Nat.reduceLeDiff, Nat.zero_le, storeAV, rowQ, ownInts, FT.of, FT.setf, elems, appAV_I, appI, srcI, ownI, anyI, sameR, appAV_P, appP, srcP, ownP, anyP, List.take_succ_cons, List.take_zero, List.drop_succ_cons, List.drop_zero, List.take_nil, List.drop_nil]
      repeat (refine And.intro ?_ ?_; focus (first | exact ordP (by kernel_rfl) | with_reducible exact rfl | assumption | trivial | (simp only [inR]; omega) | omega | exact ⟨by omega, by omega⟩ | exact ⟨by omega, by omega, by omega⟩ | exact hp0 | ((try simp only [decide_eq_true_eq, Bool.and_eq_true, ne_eq, decide_not, Bool.not_eq_true', Bool.not_eq_false', Bool.or_eq_false_iff, Bool.not_not, decide_eq_false_iff_not]); (try intro hh); (repeat' apply And.intro) <;> (first | omega | (simp only [inR]; omega) | assumption | exact hp0 | exact hh.1 | exact hh.2 | exact hh.2.1 | exact hh.2.2 | exact hh.1.1 | exact hh.1.2 | (intro hq; exact ⟨hh, hq⟩) | (intro hq; exact ⟨hh.1, hq⟩) | (simp_all; done)))))
      refine hK19 _ ?_
      clear hK19
      refine W_seq (fun K20 hK20 => ?_)
      refine W_region_mid 1 2 hT hG [] [] [4] ?_
      rw [hnt]
      simp only [baseS, eq_self, implies_true, if_true, if_false, reduceIte, Nat.reduceBEq, Nat.reduceEqDiff, Nat.reduceLT, Nat.reduceAdd, reduceCtorEq, tyInt, tdInt, tyRows, tdRows, tyInts, tdInts, c_impl_UsesValid, c_impl_within, decide_false, room, Nat.reduceLeDiff, Nat.zero_le, storeAV, rowQ, ownInts, FT.of, FT.setf, elems, appAV_I, appI, srcI, ownI, anyI, sameR, appAV_P, appP, srcP, ownP, anyP, List.take_succ_cons, List.take_zero, List.drop_succ_cons, List.drop_zero, List.take_nil, List.drop_nil]
      repeat (refine And.intro ?_ ?_; focus (first | exact ordP (by kernel_rfl) | with_reducible exact rfl | assumption | trivial | (simp only [inR]; omega) | omega | exact ⟨by omega, by omega⟩ | exact ⟨by omega, by omega, by omega⟩ | exact hp0 | ((try simp only [decide_eq_true_eq, Bool.and_eq_true, ne_eq, decide_not, Bool.not_eq_true', Bool.not_eq_false', Bool.or_eq_false_iff, Bool.not_not, decide_eq_false_iff_not]); (try intro hh); (repeat' apply And.intro) <;> (first | omega | (simp only [inR]; omega) | assumption | exact hp0 | exact hh.1 | exact hh.2 | exact hh.2.1 | exact hh.2.2 | exact hh.1.1 | exact hh.1.2 | (intro hq; exact ⟨hh, hq⟩) | (intro hq; exact ⟨hh.1, hq⟩) | (simp_all; done)))))
      refine Mid.intro (hol_clip hP rfl rfl rfl rfl rfl rfl rfl rfl rfl rfl (by rw [hnt]; decide) (by rw [hnt]; decide) rfl rfl rfl) ?_
      try rw [hnt]
      simp only [Mid2, baseS, eq_self, implies_true, if_true, if_false, reduceIte, Nat.reduceBEq, Nat.reduceEqDiff, Nat.reduceLT, Nat.reduceAdd, reduceCtorEq, tyInt, tdInt, tyRows, tdRows, tyInts, tdInts, c_impl_UsesValid, c_impl_within, decide_false, room, Nat.reduceLeDiff, Nat.zero_le, storeAV, rowQ, ownInts, FT.of, FT.setf, elems, appAV_I, appI, srcI, ownI, anyI, sameR, appAV_P, appP, srcP, ownP, anyP, List.take_succ_cons, List.take_zero, List.drop_succ_cons, List.drop_zero, List.take_nil, List.drop_nil]
      repeat (refine And.intro ?_ ?_; focus (first | exact ordP (by kernel_rfl) | with_reducible exact rfl | assumption | trivial | (simp only [inR]; omega) | omega | exact ⟨by omega, by omega⟩ | exact ⟨by omega, by omega, by omega⟩ | exact hp0 | ((try simp only [decide_eq_true_eq, Bool.and_eq_true, ne_eq, decide_not, Bool.not_eq_true', Bool.not_eq_false', Bool.or_eq_false_iff, Bool.not_not, decide_eq_false_iff_not]); (try intro hh); (repeat' apply And.intro) <;> (first | omega | (simp only [inR]; omega) | assumption | exact hp0 | exact hh.1 | exact hh.2 | exact hh.2.1 | exact hh.2.2 | exact hh.1.1 | exact hh.1.2 | (intro hq; exact ⟨hh, hq⟩) | (intro hq; exact ⟨hh.1, hq⟩) | (simp_all; done)))))
      refine hK20 _ ?_
      clear hK20
      refine W_re [(4, .ownr 3)] (by (try simp only [hnt, hnp]); rfl) ?_
      refine W_ret ?_
      simp only [thenQ, blockQ, loopQ, retQ, reduceIte, Nat.reduceEqDiff]
      refine ret1c 4 rfl rfl rfl ?_
      first | (rw [plugs_no hc12]; done) | (rw [idx_bad hi0 hc4 hc12]; done) | (have e : s.take i.toNat = s := List.take_of_length_le (by omega); rw [hO, e]; rw [e] at hix; exact plugs_eq hc4 hix)

def c_spec_PlugsOf : Ctr where
  modes := [.v .rr, .v (.r .i64)]
  al := false
  run := fun xs os => match xs, os with
    | [.rows u, .rs .i64 s], [] => some ⟨(u.length ≤ 9223372036854775807 ∧ ∀ xs ∈ u, xs.length ≤ 9223372036854775807) ∧ s.length ≤ 1000000000, .sl 0, [.sl 3 .i64 (plugsR u s)], []⟩
    | _, _ => none
theorem m_spec_PlugsOf : Meets Try.prog 14 c_spec_PlugsOf := by
  refine meets_of (T := tyT) tyOK Try.func14 (by rfl) rfl (by decide) ?_
  intro args owns R hrun hpre
  simp only [c_spec_PlugsOf] at hrun
  split at hrun
  case h_2 => cases hrun
  rename_i u s
  cases hrun
  try dsimp only at hpre
  refine ⟨_, rfl, fun E hP hnt hnp => ?_⟩
  replace hnt : E.nt = 52 := hnt
  replace hnp : E.np = 2 := hnp
  have hT : ∀ t d, tyT t = some d → TyOK E.P t d := hP ▸ tyOK
  have hG : ∀ f C, Γof [(18, c_spec_UsesValid), (22, c_spec_l1In), (23, c_spec_l1Has)] f = some C → Meets E.P f C := hΓof (by rw [hP]; exact ⟨m_spec_UsesValid, m_spec_l1In, m_spec_l1Has, trivial⟩)
  try simp only [show Try.f14.ntmps = 52 from rfl]
  have hrow := fun i => row_le hpre.1.2 i
  have hp0 := hpre.1
  have hp1 := hpre.2
  refine W_seq (fun K1 hK1 => ?_)
  refine W_region hT hG [] [0, 1] ?_
  rw [hnt]
  simp only [baseS, eq_self, implies_true, if_true, if_false, reduceIte, Nat.reduceBEq, Nat.reduceEqDiff, Nat.reduceLT, Nat.reduceAdd, reduceCtorEq, tyInt, tdInt, tyRows, tdRows, tyInts, tdInts, c_spec_UsesValid, c_spec_l1In, c_spec_l1Has, decide_false, room, Nat.reduceLeDiff, Nat.zero_le, storeAV, rowQ, ownInts, FT.of, FT.setf, elems, appAV_I, appI, srcI, ownI, anyI, sameR, appAV_P, appP, srcP, ownP, anyP]
  repeat (refine And.intro ?_ ?_; focus (first | exact ordP (by kernel_rfl) | with_reducible exact rfl | assumption | trivial | (simp only [inR]; omega) | omega | exact ⟨by omega, by omega⟩ | exact ⟨by omega, by omega, by omega⟩ | exact hp0 | ((try simp only [decide_eq_true_eq, Bool.and_eq_true, ne_eq, decide_not, Bool.not_eq_true', Bool.not_eq_false', Bool.or_eq_false_iff, Bool.not_not, decide_eq_false_iff_not]); (try intro hh); (repeat' apply And.intro) <;> (first | omega | (simp only [inR]; omega) | assumption | exact hp0 | exact hh.1 | exact hh.2 | exact hh.2.1 | exact hh.2.2 | exact hh.1.1 | exact hh.1.2 | (intro hq; exact ⟨hh, hq⟩) | (intro hq; exact ⟨hh.1, hq⟩) | (simp_all; done)))))
  refine hK1 _ ?_
  clear hK1
  refine W_seq (fun K2 hK2 => ?_)
  refine W_region hT hG [] [0, 1, 5] ?_
  rw [hnt]
  simp only [baseS, eq_self, implies_true, if_true, if_false, reduceIte, Nat.reduceBEq, Nat.reduceEqDiff, Nat.reduceLT, Nat.reduceAdd, reduceCtorEq, tyInt, tdInt, tyRows, tdRows, tyInts, tdInts, c_spec_UsesValid, c_spec_l1In, c_spec_l1Has, decide_false, room, Nat.reduceLeDiff, Nat.zero_le, storeAV, rowQ, ownInts, FT.of, FT.setf, elems, appAV_I, appI, srcI, ownI, anyI, sameR, appAV_P, appP, srcP, ownP, anyP]
  repeat (refine And.intro ?_ ?_; focus (first | exact ordP (by kernel_rfl) | with_reducible exact rfl | assumption | trivial | (simp only [inR]; omega) | omega | exact ⟨by omega, by omega⟩ | exact ⟨by omega, by omega, by omega⟩ | exact hp0 | ((try simp only [decide_eq_true_eq, Bool.and_eq_true, ne_eq, decide_not, Bool.not_eq_true', Bool.not_eq_false', Bool.or_eq_false_iff, Bool.not_not, decide_eq_false_iff_not]); (try intro hh); (repeat' apply And.intro) <;> (first | omega | (simp only [inR]; omega) | assumption | exact hp0 | exact hh.1 | exact hh.2 | exact hh.2.1 | exact hh.2.2 | exact hh.1.1 | exact hh.1.2 | (intro hq; exact ⟨hh, hq⟩) | (intro hq; exact ⟨hh.1, hq⟩) | (simp_all; done)))))
  refine hK2 _ ?_
  clear hK2
  refine W_seq (fun K3 hK3 => ?_)
  refine W_seq (fun K4 hK4 => ?_)
  refine W_region hT hG [] [0, 1, 5, 6] ?_
  rw [hnt]
  simp only [baseS, eq_self, implies_true, if_true, if_false, reduceIte, Nat.reduceBEq, Nat.reduceEqDiff, Nat.reduceLT, Nat.reduceAdd, reduceCtorEq, tyInt, tdInt, tyRows, tdRows, tyInts, tdInts, c_spec_UsesValid, c_spec_l1In, c_spec_l1Has, decide_false, room, Nat.reduceLeDiff, Nat.zero_le, storeAV, rowQ, ownInts, FT.of, FT.setf, elems, appAV_I, appI, srcI, ownI, anyI, sameR, appAV_P, appP, srcP, ownP, anyP]
  repeat (refine And.intro ?_ ?_; focus (first | exact ordP (by kernel_rfl) | with_reducible exact rfl | assumption | trivial | (simp only [inR]; omega) | omega | exact ⟨by omega, by omega⟩ | exact ⟨by omega, by omega, by omega⟩ | exact hp0 | ((try simp only [decide_eq_true_eq, Bool.and_eq_true, ne_eq, decide_not, Bool.not_eq_true', Bool.not_eq_false', Bool.or_eq_false_iff, Bool.not_not, decide_eq_false_iff_not]); (try intro hh); (repeat' apply And.intro) <;> (first | omega | (simp only [inR]; omega) | assumption | exact hp0 | exact hh.1 | exact hh.2 | exact hh.2.1 | exact hh.2.2 | exact hh.1.1 | exact hh.1.2 | (intro hq; exact ⟨hh, hq⟩) | (intro hq; exact ⟨hh.1, hq⟩) | (simp_all; done)))))
  refine hK4 _ ?_
  clear hK4
  refine W_block ?_
  refine W_loop (α := Int × List Int) [(0, .as), (1, .as), (5, .own 3 .i64), (6, .as)] (fun x => ⟨[(0, .rows u), (1, .rs .i64 s), (5, .sl 5), (6, .int x.1)], [(5, some (.sl 3 .i64 x.2))], 52⟩) (fun x => 0 ≤ x.1 ∧ x.1 ≤ 6 ∧ (0 < x.1 → idxB u s = true) ∧ x.2 = plugsF u s x.1.toNat) (fun x => (6 - x.1).toNat) (0, []) ?_ ?_ ?_
  · (try simp only [hnt, hnp]); rfl
  · exact ⟨by omega, by dsimp only; omega, fun h => absurd h (by dsimp only; omega), rfl⟩
  rintro ⟨i, out⟩ ⟨hi0, hi1, hix, hO⟩
  dsimp only at hi0 hi1 hix hO ⊢
  have hol : out.length ≤ 6 := by
    rw [hO]
    have h1 := plugsF_len (u := u) (s := s) i.toNat
    omega
  have hin : ((i.toNat : Nat) : Int) = i := by omega
  have hnx : (i + 1).toNat = i.toNat + 1 := by omega
  refine W_seq (fun K6 hK6 => ?_)
  refine W_seq (fun K7 hK7 => ?_)
  refine W_region hT hG [] [0, 1, 5, 6, 11] ?_
  rw [hnt]
  simp only [baseS, eq_self, implies_true, if_true, if_false, reduceIte, Nat.reduceBEq, Nat.reduceEqDiff, Nat.reduceLT, Nat.reduceAdd, reduceCtorEq, tyInt, tdInt, tyRows, tdRows, tyInts, tdInts, c_spec_UsesValid, c_spec_l1In, c_spec_l1Has, decide_false, room, Nat.reduceLeDiff, Nat.zero_le, storeAV, rowQ, ownInts, FT.of, FT.setf, elems, appAV_I, appI, srcI, ownI, anyI, sameR, appAV_P, appP, srcP, ownP, anyP]
  repeat (refine And.intro ?_ ?_; focus (first | exact ordP (by kernel_rfl) | with_reducible exact rfl | assumption | trivial | (simp only [inR]; omega) | omega | exact ⟨by omega, by omega⟩ | exact ⟨by omega, by omega, by omega⟩ | exact hp0 | ((try simp only [decide_eq_true_eq, Bool.and_eq_true, ne_eq, decide_not, Bool.not_eq_true', Bool.not_eq_false', Bool.or_eq_false_iff, Bool.not_not, decide_eq_false_iff_not]); (try intro hh); (repeat' apply And.intro) <;> (first | omega | (simp only [inR]; omega) | assumption | exact hp0 | exact hh.1 | exact hh.2 | exact hh.2.1 | exact hh.2.2 | exact hh.1.1 | exact hh.1.2 | (intro hq; exact ⟨hh, hq⟩) | (intro hq; exact ⟨hh.1, hq⟩) | (simp_all; done)))))
  refine hK7 _ ?_
  clear hK7
  refine W_cond (b := _) rfl (fun hc8 => ?_) (fun hc8 => ?_)
  · try simp only [decide_eq_true_eq, decide_eq_false_iff_not, ne_eq, Decidable.not_not, Bool.not_eq_true', Bool.not_eq_false', Bool.or_eq_true, Bool.and_eq_true, Bool.or_eq_false_iff, Bool.and_eq_false_iff] at hc8
    refine W_skip ?_
    simp only [thenQ, blockQ, loopQ, reduceIte, Nat.reduceEqDiff]
    refine hK6 _ ?_
    clear hK6
    refine W_seq (fun K9 hK9 => ?_)
    refine W_block ?_
    refine W_seq (fun K10 hK10 => ?_)
    refine W_region hT hG [] [0, 1, 5, 6, 7] ?_
    rw [hnt]
    simp only [baseS, eq_self, implies_true, if_true, if_false, reduceIte, Nat.reduceBEq, Nat.reduceEqDiff, Nat.reduceLT, Nat.reduceAdd, reduceCtorEq, tyInt, tdInt, tyRows, tdRows, tyInts, tdInts, c_spec_UsesValid, c_spec_l1In, c_spec_l1Has, decide_false, room, Nat.reduceLeDiff, Nat.zero_le, storeAV, rowQ, ownInts, FT.of, FT.setf, elems, appAV_I, appI, srcI, ownI, anyI, sameR, appAV_P, appP, srcP, ownP, anyP]
    repeat (refine And.intro ?_ ?_; focus (first | exact ordP (by kernel_rfl) | with_reducible exact rfl | assumption | trivial | (simp only [inR]; omega) | omega | exact ⟨by omega, by omega⟩ | exact ⟨by omega, by omega, by omega⟩ | exact hp0 | ((try simp only [decide_eq_true_eq, Bool.and_eq_true, ne_eq, decide_not, Bool.not_eq_true', Bool.not_eq_false', Bool.or_eq_false_iff, Bool.not_not, decide_eq_false_iff_not]); (try intro hh); (repeat' apply And.intro) <;> (first | omega | (simp only [inR]; omega) | assumption | exact hp0 | exact hh.1 | exact hh.2 | exact hh.2.1 | exact hh.2.2 | exact hh.1.1 | exact hh.1.2 | (intro hq; exact ⟨hh, hq⟩) | (intro hq; exact ⟨hh.1, hq⟩) | (simp_all; done)))))
    refine hK10 _ ?_
    clear hK10
    refine W_seq (fun K11 hK11 => ?_)
    refine W_seq (fun K12 hK12 => ?_)
    refine W_region hT hG [] [0, 1, 5, 6, 7, 8] ?_
    rw [hnt]
    simp only [baseS, eq_self, implies_true, if_true, if_false, reduceIte, Nat.reduceBEq, Nat.reduceEqDiff, Nat.reduceLT, Nat.reduceAdd, reduceCtorEq, tyInt, tdInt, tyRows, tdRows, tyInts, tdInts, c_spec_UsesValid, c_spec_l1In, c_spec_l1Has, decide_false, room, Nat.reduceLeDiff, Nat.zero_le, storeAV, rowQ, ownInts, FT.of, FT.setf, elems, appAV_I, appI, srcI, ownI, anyI, sameR, appAV_P, appP, srcP, ownP, anyP]
    repeat (refine And.intro ?_ ?_; focus (first | exact ordP (by kernel_rfl) | with_reducible exact rfl | assumption | trivial | (simp only [inR]; omega) | omega | exact ⟨by omega, by omega⟩ | exact ⟨by omega, by omega, by omega⟩ | exact hp0 | ((try simp only [decide_eq_true_eq, Bool.and_eq_true, ne_eq, decide_not, Bool.not_eq_true', Bool.not_eq_false', Bool.or_eq_false_iff, Bool.not_not, decide_eq_false_iff_not]); (try intro hh); (repeat' apply And.intro) <;> (first | omega | (simp only [inR]; omega) | assumption | exact hp0 | exact hh.1 | exact hh.2 | exact hh.2.1 | exact hh.2.2 | exact hh.1.1 | exact hh.1.2 | (intro hq; exact ⟨hh, hq⟩) | (intro hq; exact ⟨hh.1, hq⟩) | (simp_all; done)))))
    refine hK12 _ ?_
    clear hK12
    refine W_block ?_
    refine W_loop (α := Int × Bool) [(0, .as), (1, .as), (5, .own 3 .i64), (6, .as), (7, .as), (8, .as)] (fun y => ⟨[(0, .rows u), (1, .rs .i64 s), (5, .sl 5), (6, .int i), (7, .bool y.2), (8, .int y.1)], [(5, some (.sl 3 .i64 out))], 52⟩) (fun y => 0 ≤ y.1 ∧ y.1 ≤ s.length ∧ idxB u (s.take y.1.toNat) = true ∧ y.2 = hasPl u (s.take y.1.toNat) i) (fun y => (s.length - y.1).toNat) (0, false) ?_ ?_ ?_
    · (try simp only [hnt, hnp]); rfl
    · exact ⟨by omega, by dsimp only; omega, rfl, rfl⟩
    rintro ⟨k, has⟩ ⟨hk0, hk1, hkx, hH⟩
    dsimp only at hk0 hk1 hkx hH ⊢
    have hri := hrow (s.getD k.toNat 0).toNat
    refine W_seq (fun K14 hK14 => ?_)
    refine W_seq (fun K15 hK15 => ?_)
    refine W_region hT hG [] [0, 1, 5, 6, 7, 8, 17] ?_
    rw [hnt]
    simp only [baseS, eq_self, implies_true, if_true, if_false, reduceIte, Nat.reduceBEq, Nat.reduceEqDiff, Nat.reduceLT, Nat.reduceAdd, reduceCtorEq, tyInt, tdInt, tyRows, tdRows, tyInts, tdInts, c_spec_UsesValid, c_spec_l1In, c_spec_l1Has, decide_false, room, Nat.reduceLeDiff, Nat.zero_le, storeAV, rowQ, ownInts, FT.of, FT.setf, elems, appAV_I, appI, srcI, ownI, anyI, sameR, appAV_P, appP, srcP, ownP, anyP]
    repeat (refine And.intro ?_ ?_; focus (first | exact ordP (by kernel_rfl) | with_reducible exact rfl | assumption | trivial | (simp only [inR]; omega) | omega | exact ⟨by omega, by omega⟩ | exact ⟨by omega, by omega, by omega⟩ | exact hp0 | ((try simp only [decide_eq_true_eq, Bool.and_eq_true, ne_eq, decide_not, Bool.not_eq_true', Bool.not_eq_false', Bool.or_eq_false_iff, Bool.not_not, decide_eq_false_iff_not]); (try intro hh); (repeat' apply And.intro) <;> (first | omega | (simp only [inR]; omega) | assumption | exact hp0 | exact hh.1 | exact hh.2 | exact hh.2.1 | exact hh.2.2 | exact hh.1.1 | exact hh.1.2 | (intro hq; exact ⟨hh, hq⟩) | (intro hq; exact ⟨hh.1, hq⟩) | (simp_all; done)))))
    refine hK15 _ ?_
    clear hK15
    refine W_cond (b := _) rfl (fun hc16 => ?_) (fun hc16 => ?_)
    · try simp only [decide_eq_true_eq, decide_eq_false_iff_not, ne_eq, Decidable.not_not, Bool.not_eq_true', Bool.not_eq_false', Bool.or_eq_true, Bool.and_eq_true, Bool.or_eq_false_iff, Bool.and_eq_false_iff] at hc16
      refine W_skip ?_
      simp only [thenQ, blockQ, loopQ, reduceIte, Nat.reduceEqDiff]
      refine hK14 _ ?_
      clear hK14
      refine W_seq (fun K17 hK17 => ?_)
      refine W_block ?_
      refine W_seq (fun K18 hK18 => ?_)
      refine W_seq (fun K19 hK19 => ?_)
      refine W_region hT hG [] [0, 1, 5, 6, 7, 8, 28] ?_
      rw [hnt]
      simp only [baseS, eq_self, implies_true, if_true, if_false, reduceIte, Nat.reduceBEq, Nat.reduceEqDiff, Nat.reduceLT, Nat.reduceAdd, reduceCtorEq, tyInt, tdInt, tyRows, tdRows, tyInts, tdInts, c_spec_UsesValid, c_spec_l1In, c_spec_l1Has, decide_false, room, Nat.reduceLeDiff, Nat.zero_le, storeAV, rowQ, ownInts, FT.of, FT.setf, elems, appAV_I, appI, srcI, ownI, anyI, sameR, appAV_P, appP, srcP, ownP, anyP]
      repeat (refine And.intro ?_ ?_; focus (first | exact ordP (by kernel_rfl) | with_reducible exact rfl | assumption | trivial | (simp only [inR]; omega) | omega | exact ⟨by omega, by omega⟩ | exact ⟨by omega, by omega, by omega⟩ | exact hp0 | ((try simp only [decide_eq_true_eq, Bool.and_eq_true, ne_eq, decide_not, Bool.not_eq_true', Bool.not_eq_false', Bool.or_eq_false_iff, Bool.not_not, decide_eq_false_iff_not]); (try intro hh); (repeat' apply And.intro) <;> (first | omega | (simp only [inR]; omega) | assumption | exact hp0 | exact hh.1 | exact hh.2 | exact hh.2.1 | exact hh.2.2 | exact hh.1.1 | exact hh.1.2 | (intro hq; exact ⟨hh, hq⟩) | (intro hq; exact ⟨hh.1, hq⟩) | (simp_all; done)))))
      refine hK19 _ ?_
      clear hK19
      refine W_cond (b := _) rfl (fun hc20 => ?_) (fun hc20 => ?_)
      · try simp only [decide_eq_true_eq, decide_eq_false_iff_not, ne_eq, Decidable.not_not, Bool.not_eq_true', Bool.not_eq_false', Bool.or_eq_true, Bool.and_eq_true, Bool.or_eq_false_iff, Bool.and_eq_false_iff] at hc20
        refine W_seq (fun K21 hK21 => ?_)
        refine W_region hT hG [] [4] ?_
        rw [hnt]
        simp only [baseS, eq_self, implies_true, if_true, if_false, reduceIte, Nat.reduceBEq, Nat.reduceEqDiff, Nat.reduceLT, Nat.reduceAdd, reduceCtorEq, tyInt, tdInt, tyRows, tdRows, tyInts, tdInts, c_spec_UsesValid, c_spec_l1In, c_spec_l1Has, decide_false, room, Nat.reduceLeDiff, Nat.zero_le, storeAV, rowQ, ownInts, FT.of, FT.setf, elems, appAV_I, appI, srcI, ownI, anyI, sameR, appAV_P, appP, srcP, ownP, anyP]
        repeat (refine And.intro ?_ ?_; focus (first | exact ordP (by kernel_rfl) | with_reducible exact rfl | assumption | trivial | (simp only [inR]; omega) | omega | exact ⟨by omega, by omega⟩ | exact ⟨by omega, by omega, by omega⟩ | exact hp0 | ((try simp only [decide_eq_true_eq, Bool.and_eq_true, ne_eq, decide_not, Bool.not_eq_true', Bool.not_eq_false', Bool.or_eq_false_iff, Bool.not_not, decide_eq_false_iff_not]); (try intro hh); (repeat' apply And.intro) <;> (first | omega | (simp only [inR]; omega) | assumption | exact hp0 | exact hh.1 | exact hh.2 | exact hh.2.1 | exact hh.2.2 | exact hh.1.1 | exact hh.1.2 | (intro hq; exact ⟨hh, hq⟩) | (intro hq; exact ⟨hh.1, hq⟩) | (simp_all; done)))))
        refine hK21 _ ?_
        clear hK21
        refine W_re [(4, .own 3 .i64)] (by (try simp only [hnt, hnp]); rfl) ?_
        refine W_ret ?_
        simp only [thenQ, blockQ, loopQ, retQ, reduceIte, Nat.reduceEqDiff]
        refine ret1s 4 rfl rfl rfl ?_
        all_goals (
          first | (rw [idx_bad hk0 hc16 hc20]; done) | (rw [plugs_no hc20]; done) | (rw [plugsR, if_pos ⟨hc20, hix (by omega)⟩, hO, show i.toNat = 6 by omega]; done))
      · try simp only [decide_eq_true_eq, decide_eq_false_iff_not, ne_eq, Decidable.not_not, Bool.not_eq_true', Bool.not_eq_false', Bool.or_eq_true, Bool.and_eq_true, Bool.or_eq_false_iff, Bool.and_eq_false_iff] at hc20
        refine W_skip ?_
        simp only [thenQ, blockQ, loopQ, reduceIte, Nat.reduceEqDiff]
        refine hK18 _ ?_
        clear hK18
        refine W_region hT hG [] [0, 1, 5, 6, 7, 8] ?_
        rw [hnt]
        simp only [baseS, eq_self, implies_true, if_true, if_false, reduceIte, Nat.reduceBEq, Nat.reduceEqDiff, Nat.reduceLT, Nat.reduceAdd, reduceCtorEq, tyInt, tdInt, tyRows, tdRows, tyInts, tdInts, c_spec_UsesValid, c_spec_l1In, c_spec_l1Has, decide_false, room, Nat.reduceLeDiff, Nat.zero_le, storeAV, rowQ, ownInts, FT.of, FT.setf, elems, appAV_I, appI, srcI, ownI, anyI, sameR, appAV_P, appP, srcP, ownP, anyP]
        repeat (refine And.intro ?_ ?_; focus (first | exact ordP (by kernel_rfl) | with_reducible exact rfl | assumption | trivial | (simp only [inR]; omega) | omega | exact ⟨by omega, by omega⟩ | exact ⟨by omega, by omega, by omega⟩ | exact hp0 | ((try simp only [decide_eq_true_eq, Bool.and_eq_true, ne_eq, decide_not, Bool.not_eq_true', Bool.not_eq_false', Bool.or_eq_false_iff, Bool.not_not, decide_eq_false_iff_not]); (try intro hh); (repeat' apply And.intro) <;> (first | omega | (simp only [inR]; omega) | assumption | exact hp0 | exact hh.1 | exact hh.2 | exact hh.2.1 | exact hh.2.2 | exact hh.1.1 | exact hh.1.2 | (intro hq; exact ⟨hh, hq⟩) | (intro hq; exact ⟨hh.1, hq⟩) | (simp_all; done)))))
        refine hK17 _ ?_
        clear hK17
        refine W_region hT hG [] [0, 1, 5, 6, 7, 8] ?_
        rw [hnt]
        simp only [baseS, eq_self, implies_true, if_true, if_false, reduceIte, Nat.reduceBEq, Nat.reduceEqDiff, Nat.reduceLT, Nat.reduceAdd, reduceCtorEq, tyInt, tdInt, tyRows, tdRows, tyInts, tdInts, c_spec_UsesValid, c_spec_l1In, c_spec_l1Has, decide_false, room, Nat.reduceLeDiff, Nat.zero_le, storeAV, rowQ, ownInts, FT.of, FT.setf, elems, appAV_I, appI, srcI, ownI, anyI, sameR, appAV_P, appP, srcP, ownP, anyP]
        repeat (refine And.intro ?_ ?_; focus (first | exact ordP (by kernel_rfl) | with_reducible exact rfl | assumption | trivial | (simp only [inR]; omega) | omega | exact ⟨by omega, by omega⟩ | exact ⟨by omega, by omega, by omega⟩ | exact hp0 | ((try simp only [decide_eq_true_eq, Bool.and_eq_true, ne_eq, decide_not, Bool.not_eq_true', Bool.not_eq_false', Bool.or_eq_false_iff, Bool.not_not, decide_eq_false_iff_not]); (try intro hh); (repeat' apply And.intro) <;> (first | omega | (simp only [inR]; omega) | assumption | exact hp0 | exact hh.1 | exact hh.2 | exact hh.2.1 | exact hh.2.2 | exact hh.1.1 | exact hh.1.2 | (intro hq; exact ⟨hh, hq⟩) | (intro hq; exact ⟨hh.1, hq⟩) | (simp_all; done)))))
        refine ⟨(k + 1, has || decide (i ∈ u.getD (s.getD k.toNat 0).toNat [])), (by (try simp only [hnt, hnp]); rfl), ⟨by dsimp only; omega, by dsimp only; omega, by dsimp only; exact idx_next hk0 hc16 hkx hc20, by dsimp only; rw [has_step hk0 hc16, hH]⟩, by dsimp only; omega⟩
    · try simp only [decide_eq_true_eq, decide_eq_false_iff_not, ne_eq, Decidable.not_not, Bool.not_eq_true', Bool.not_eq_false', Bool.or_eq_true, Bool.and_eq_true, Bool.or_eq_false_iff, Bool.and_eq_false_iff] at hc16
      refine W_exit ?_
      simp only [thenQ, blockQ, loopQ, reduceIte, Nat.reduceEqDiff]
      refine hK11 _ ?_
      clear hK11
      refine W_seq (fun K22 hK22 => ?_)
      refine W_region hT hG [] [0, 1, 5, 6, 42] ?_
      rw [hnt]
      simp only [baseS, eq_self, implies_true, if_true, if_false, reduceIte, Nat.reduceBEq, Nat.reduceEqDiff, Nat.reduceLT, Nat.reduceAdd, reduceCtorEq, tyInt, tdInt, tyRows, tdRows, tyInts, tdInts, c_spec_UsesValid, c_spec_l1In, c_spec_l1Has, decide_false, room, Nat.reduceLeDiff, Nat.zero_le, storeAV, rowQ, ownInts, FT.of, FT.setf, elems, appAV_I, appI, srcI, ownI, anyI, sameR, appAV_P, appP, srcP, ownP, anyP]
      repeat (refine And.intro ?_ ?_; focus (first | exact ordP (by kernel_rfl) | with_reducible exact rfl | assumption | trivial | (simp only [inR]; omega) | omega | exact ⟨by omega, by omega⟩ | exact ⟨by omega, by omega, by omega⟩ | exact hp0 | ((try simp only [decide_eq_true_eq, Bool.and_eq_true, ne_eq, decide_not, Bool.not_eq_true', Bool.not_eq_false', Bool.or_eq_false_iff, Bool.not_not, decide_eq_false_iff_not]); (try intro hh); (repeat' apply And.intro) <;> (first | omega | (simp only [inR]; omega) | assumption | exact hp0 | exact hh.1 | exact hh.2 | exact hh.2.1 | exact hh.2.2 | exact hh.1.1 | exact hh.1.2 | (intro hq; exact ⟨hh, hq⟩) | (intro hq; exact ⟨hh.1, hq⟩) | (simp_all; done)))))
      refine hK22 _ ?_
      clear hK22
      refine W_cond (b := _) rfl (fun hc23 => ?_) (fun hc23 => ?_)
      · try simp only [decide_eq_true_eq, decide_eq_false_iff_not, ne_eq, Decidable.not_not, Bool.not_eq_true', Bool.not_eq_false', Bool.or_eq_true, Bool.and_eq_true, Bool.or_eq_false_iff, Bool.and_eq_false_iff] at hc23
        refine W_region hT hG [] [0, 1, 5, 6] ?_
        rw [hnt]
        simp only [baseS, eq_self, implies_true, if_true, if_false, reduceIte, Nat.reduceBEq, Nat.reduceEqDiff, Nat.reduceLT, Nat.reduceAdd, reduceCtorEq, tyInt, tdInt, tyRows, tdRows, tyInts, tdInts, c_spec_UsesValid, c_spec_l1In, c_spec_l1Has, decide_false, room, Nat.reduceLeDiff, Nat.zero_le, storeAV, rowQ, ownInts, FT.of, FT.setf, elems, appAV_I, appI, srcI, ownI, anyI, sameR, appAV_P, appP, srcP, ownP, anyP]
        repeat (refine And.intro ?_ ?_; focus (first | exact ordP (by kernel_rfl) | with_reducible exact rfl | assumption | trivial | (simp only [inR]; omega) | omega | exact ⟨by omega, by omega⟩ | exact ⟨by omega, by omega, by omega⟩ | exact hp0 | ((try simp only [decide_eq_true_eq, Bool.and_eq_true, ne_eq, decide_not, Bool.not_eq_true', Bool.not_eq_false', Bool.or_eq_false_iff, Bool.not_not, decide_eq_false_iff_not]); (try intro hh); (repeat' apply And.intro) <;> (first | omega | (simp only [inR]; omega) | assumption | exact hp0 | exact hh.1 | exact hh.2 | exact hh.2.1 | exact hh.2.2 | exact hh.1.1 | exact hh.1.2 | (intro hq; exact ⟨hh, hq⟩) | (intro hq; exact ⟨hh.1, hq⟩) | (simp_all; done)))))
        refine hK9 _ ?_
        clear hK9
        refine W_region hT hG [] [0, 1, 5, 6] ?_
        rw [hnt]
        simp only [baseS, eq_self, implies_true, if_true, if_false, reduceIte, Nat.reduceBEq, Nat.reduceEqDiff, Nat.reduceLT, Nat.reduceAdd, reduceCtorEq, tyInt, tdInt, tyRows, tdRows, tyInts, tdInts, c_spec_UsesValid, c_spec_l1In, c_spec_l1Has, decide_false, room, Nat.reduceLeDiff, Nat.zero_le, storeAV, rowQ, ownInts, FT.of, FT.setf, elems, appAV_I, appI, srcI, ownI, anyI, sameR, appAV_P, appP, srcP, ownP, anyP]
        repeat (refine And.intro ?_ ?_; focus (first | exact ordP (by kernel_rfl) | with_reducible exact rfl | assumption | trivial | (simp only [inR]; omega) | omega | exact ⟨by omega, by omega⟩ | exact ⟨by omega, by omega, by omega⟩ | exact hp0 | ((try simp only [decide_eq_true_eq, Bool.and_eq_true, ne_eq, decide_not, Bool.not_eq_true', Bool.not_eq_false', Bool.or_eq_false_iff, Bool.not_not, decide_eq_false_iff_not]); (try intro hh); (repeat' apply And.intro) <;> (first | omega | (simp only [inR]; omega) | assumption | exact hp0 | exact hh.1 | exact hh.2 | exact hh.2.1 | exact hh.2.2 | exact hh.1.1 | exact hh.1.2 | (intro hq; exact ⟨hh, hq⟩) | (intro hq; exact ⟨hh.1, hq⟩) | (simp_all; done)))))
        have hks : s.take k.toNat = s := List.take_of_length_le (by omega)
        rw [hks] at hkx hH
        first
        | (refine ⟨(i + 1, out ++ [i]), (by (try simp only [hnt, hnp]); rfl), ⟨by dsimp only; omega, by dsimp only; omega, fun _ => hkx, by dsimp only; rw [hnx, plugsF, hin, if_pos (by rw [← hH]; exact hc23), hO]⟩, by dsimp only; omega⟩)
        | (refine ⟨(i + 1, out), (by (try simp only [hnt, hnp]); rfl), ⟨by dsimp only; omega, by dsimp only; omega, fun _ => hkx, by dsimp only; rw [hnx, plugsF, hin, if_neg (by rw [← hH, hc23]; simp), hO]⟩, by dsimp only; omega⟩)
      · try simp only [decide_eq_true_eq, decide_eq_false_iff_not, ne_eq, Decidable.not_not, Bool.not_eq_true', Bool.not_eq_false', Bool.or_eq_true, Bool.and_eq_true, Bool.or_eq_false_iff, Bool.and_eq_false_iff] at hc23
        refine W_skip ?_
        simp only [thenQ, blockQ, loopQ, reduceIte, Nat.reduceEqDiff]
        refine hK9 _ ?_
        clear hK9
        refine W_region hT hG [] [0, 1, 5, 6] ?_
        rw [hnt]
        simp only [baseS, eq_self, implies_true, if_true, if_false, reduceIte, Nat.reduceBEq, Nat.reduceEqDiff, Nat.reduceLT, Nat.reduceAdd, reduceCtorEq, tyInt, tdInt, tyRows, tdRows, tyInts, tdInts, c_spec_UsesValid, c_spec_l1In, c_spec_l1Has, decide_false, room, Nat.reduceLeDiff, Nat.zero_le, storeAV, rowQ, ownInts, FT.of, FT.setf, elems, appAV_I, appI, srcI, ownI, anyI, sameR, appAV_P, appP, srcP, ownP, anyP]
        repeat (refine And.intro ?_ ?_; focus (first | exact ordP (by kernel_rfl) | with_reducible exact rfl | assumption | trivial | (simp only [inR]; omega) | omega | exact ⟨by omega, by omega⟩ | exact ⟨by omega, by omega, by omega⟩ | exact hp0 | ((try simp only [decide_eq_true_eq, Bool.and_eq_true, ne_eq, decide_not, Bool.not_eq_true', Bool.not_eq_false', Bool.or_eq_false_iff, Bool.not_not, decide_eq_false_iff_not]); (try intro hh); (repeat' apply And.intro) <;> (first | omega | (simp only [inR]; omega) | assumption | exact hp0 | exact hh.1 | exact hh.2 | exact hh.2.1 | exact hh.2.2 | exact hh.1.1 | exact hh.1.2 | (intro hq; exact ⟨hh, hq⟩) | (intro hq; exact ⟨hh.1, hq⟩) | (simp_all; done)))))
        have hks : s.take k.toNat = s := List.take_of_length_le (by omega)
        rw [hks] at hkx hH
        first
        | (refine ⟨(i + 1, out ++ [i]), (by (try simp only [hnt, hnp]); rfl), ⟨by dsimp only; omega, by dsimp only; omega, fun _ => hkx, by dsimp only; rw [hnx, plugsF, hin, if_pos (by rw [← hH]; exact hc23), hO]⟩, by dsimp only; omega⟩)
        | (refine ⟨(i + 1, out), (by (try simp only [hnt, hnp]); rfl), ⟨by dsimp only; omega, by dsimp only; omega, fun _ => hkx, by dsimp only; rw [hnx, plugsF, hin, if_neg (by rw [← hH, hc23]; simp), hO]⟩, by dsimp only; omega⟩)
  · try simp only [decide_eq_true_eq, decide_eq_false_iff_not, ne_eq, Decidable.not_not, Bool.not_eq_true', Bool.not_eq_false', Bool.or_eq_true, Bool.and_eq_true, Bool.or_eq_false_iff, Bool.and_eq_false_iff] at hc8
    refine W_exit ?_
    simp only [thenQ, blockQ, loopQ, reduceIte, Nat.reduceEqDiff]
    refine hK3 _ ?_
    clear hK3
    refine W_seq (fun K24 hK24 => ?_)
    refine W_seq (fun K25 hK25 => ?_)
    refine W_region hT hG [] [5, 49] ?_
    rw [hnt]
    simp only [baseS, eq_self, implies_true, if_true, if_false, reduceIte, Nat.reduceBEq, Nat.reduceEqDiff, Nat.reduceLT, Nat.reduceAdd, reduceCtorEq, tyInt, tdInt, tyRows, tdRows, tyInts, tdInts, c_spec_UsesValid, c_spec_l1In, c_spec_l1Has, decide_false, room, Nat.reduceLeDiff, Nat.zero_le, storeAV, rowQ, ownInts, FT.of, FT.setf, elems, appAV_I, appI, srcI, ownI, anyI, sameR, appAV_P, appP, srcP, ownP, anyP]
    repeat (refine And.intro ?_ ?_; focus (first | exact ordP (by kernel_rfl) | with_reducible exact rfl | assumption | trivial | (simp only [inR]; omega) | omega | exact ⟨by omega, by omega⟩ | exact ⟨by omega, by omega, by omega⟩ | exact hp0 | ((try simp only [decide_eq_true_eq, Bool.and_eq_true, ne_eq, decide_not, Bool.not_eq_true', Bool.not_eq_false', Bool.or_eq_false_iff, Bool.not_not, decide_eq_false_iff_not]); (try intro hh); (repeat' apply And.intro) <;> (first | omega | (simp only [inR]; omega) | assumption | exact hp0 | exact hh.1 | exact hh.2 | exact hh.2.1 | exact hh.2.2 | exact hh.1.1 | exact hh.1.2 | (intro hq; exact ⟨hh, hq⟩) | (intro hq; exact ⟨hh.1, hq⟩) | (simp_all; done)))))
    refine hK25 _ ?_
    clear hK25
    refine W_cond (b := _) rfl (fun hc26 => ?_) (fun hc26 => ?_)
    · try simp only [decide_eq_true_eq, decide_eq_false_iff_not, ne_eq, Decidable.not_not, Bool.not_eq_true', Bool.not_eq_false', Bool.or_eq_true, Bool.and_eq_true, Bool.or_eq_false_iff, Bool.and_eq_false_iff] at hc26
      refine W_seq (fun K27 hK27 => ?_)
      refine W_region hT hG [] [4] ?_
      rw [hnt]
      simp only [baseS, eq_self, implies_true, if_true, if_false, reduceIte, Nat.reduceBEq, Nat.reduceEqDiff, Nat.reduceLT, Nat.reduceAdd, reduceCtorEq, tyInt, tdInt, tyRows, tdRows, tyInts, tdInts, c_spec_UsesValid, c_spec_l1In, c_spec_l1Has, decide_false, room, Nat.reduceLeDiff, Nat.zero_le, storeAV, rowQ, ownInts, FT.of, FT.setf, elems, appAV_I, appI, srcI, ownI, anyI, sameR, appAV_P, appP, srcP, ownP, anyP]
      repeat (refine And.intro ?_ ?_; focus (first | exact ordP (by kernel_rfl) | with_reducible exact rfl | assumption | trivial | (simp only [inR]; omega) | omega | exact ⟨by omega, by omega⟩ | exact ⟨by omega, by omega, by omega⟩ | exact hp0 | ((try simp only [decide_eq_true_eq, Bool.and_eq_true, ne_eq, decide_not, Bool.not_eq_true', Bool.not_eq_false', Bool.or_eq_false_iff, Bool.not_not, decide_eq_false_iff_not]); (try intro hh); (repeat' apply And.intro) <;> (first | omega | (simp only [inR]; omega) | assumption | exact hp0 | exact hh.1 | exact hh.2 | exact hh.2.1 | exact hh.2.2 | exact hh.1.1 | exact hh.1.2 | (intro hq; exact ⟨hh, hq⟩) | (intro hq; exact ⟨hh.1, hq⟩) | (simp_all; done)))))
      refine hK27 _ ?_
      clear hK27
      refine W_re [(4, .own 3 .i64)] (by (try simp only [hnt, hnp]); rfl) ?_
      refine W_ret ?_
      simp only [thenQ, blockQ, loopQ, retQ, reduceIte, Nat.reduceEqDiff]
      refine ret1s 4 rfl rfl rfl ?_
      all_goals (
        first | (rw [idx_bad hk0 hc8 hc26]; done) | (rw [plugs_no hc26]; done) | (rw [plugsR, if_pos ⟨hc26, hix (by omega)⟩, hO, show i.toNat = 6 by omega]; done))
    · try simp only [decide_eq_true_eq, decide_eq_false_iff_not, ne_eq, Decidable.not_not, Bool.not_eq_true', Bool.not_eq_false', Bool.or_eq_true, Bool.and_eq_true, Bool.or_eq_false_iff, Bool.and_eq_false_iff] at hc26
      refine W_skip ?_
      simp only [thenQ, blockQ, loopQ, reduceIte, Nat.reduceEqDiff]
      refine hK24 _ ?_
      clear hK24
      refine W_seq (fun K28 hK28 => ?_)
      refine W_region hT hG [] [4] ?_
      rw [hnt]
      simp only [baseS, eq_self, implies_true, if_true, if_false, reduceIte, Nat.reduceBEq, Nat.reduceEqDiff, Nat.reduceLT, Nat.reduceAdd, reduceCtorEq, tyInt, tdInt, tyRows, tdRows, tyInts, tdInts, c_spec_UsesValid, c_spec_l1In, c_spec_l1Has, decide_false, room, Nat.reduceLeDiff, Nat.zero_le, storeAV, rowQ, ownInts, FT.of, FT.setf, elems, appAV_I, appI, srcI, ownI, anyI, sameR, appAV_P, appP, srcP, ownP, anyP]
      repeat (refine And.intro ?_ ?_; focus (first | exact ordP (by kernel_rfl) | with_reducible exact rfl | assumption | trivial | (simp only [inR]; omega) | omega | exact ⟨by omega, by omega⟩ | exact ⟨by omega, by omega, by omega⟩ | exact hp0 | ((try simp only [decide_eq_true_eq, Bool.and_eq_true, ne_eq, decide_not, Bool.not_eq_true', Bool.not_eq_false', Bool.or_eq_false_iff, Bool.not_not, decide_eq_false_iff_not]); (try intro hh); (repeat' apply And.intro) <;> (first | omega | (simp only [inR]; omega) | assumption | exact hp0 | exact hh.1 | exact hh.2 | exact hh.2.1 | exact hh.2.2 | exact hh.1.1 | exact hh.1.2 | (intro hq; exact ⟨hh, hq⟩) | (intro hq; exact ⟨hh.1, hq⟩) | (simp_all; done)))))
      refine hK28 _ ?_
      clear hK28
      refine W_re [(4, .own 3 .i64)] (by (try simp only [hnt, hnp]); rfl) ?_
      refine W_ret ?_
      simp only [thenQ, blockQ, loopQ, retQ, reduceIte, Nat.reduceEqDiff]
      refine ret1s 4 rfl rfl rfl ?_
      all_goals (
        first | (rw [idx_bad hk0 hc8 hc26]; done) | (rw [plugs_no hc26]; done) | (rw [plugsR, if_pos ⟨hc26, hix (by omega)⟩, hO, show i.toNat = 6 by omega]; done))

def c_laws_markIntSc : Ctr where
  modes := [.m, .v .p]
  al := false
  run := fun xs os => match xs, os with
    | [.int k], [.cl 3 a] => some ⟨(0 ≤ k ∧ k ≤ 4611686018427387904) ∧ a.length ≤ 1099511627776, .int (k + a.length), [], [.cl 3 (markL a.length k)]⟩
    | _, _ => none
theorem m_laws_markIntSc : Meets Try.prog 12 c_laws_markIntSc := by
  refine meets_of (T := tyT) tyOK Try.func12 (by rfl) rfl (by decide) ?_
  intro args owns R hrun hpre
  simp only [c_laws_markIntSc] at hrun
  split at hrun
  case h_2 => cases hrun
  rename_i k a
  cases hrun
  try dsimp only at hpre
  refine ⟨⟨[(0, .sl 0), (1, .int k)], [(0, some (.cl 3 a))], 19⟩, rfl, fun E hP hnt hnp => ?_⟩
  replace hnt : E.nt = 19 := hnt
  replace hnp : E.np = 2 := hnp
  have hT : ∀ t d, tyT t = some d → TyOK E.P t d := hP ▸ tyOK
  have hG : ∀ f C, Γof [] f = some C → Meets E.P f C := hΓof (by rw [hP]; exact trivial)
  try simp only [show Try.f12.ntmps = 19 from rfl]
  have hk := hpre.1
  have ha := hpre.2
  refine W_seq (fun K1 hK1 => ?_)
  refine W_region hT hG [] [0, 1] ?_
  rw [hnt]
  simp only [baseS, eq_self, implies_true, if_true, if_false, reduceIte, Nat.reduceBEq, Nat.reduceEqDiff, Nat.reduceLT, Nat.reduceAdd, reduceCtorEq, tyInt, tdInt, tyInts, tdInts, storeAV, rowQ, ownInts, FT.of, FT.setf, List.nil_append, Int.toNat_natCast, List.set_cons_zero, ne_eq, not_false_eq_true]
  repeat (refine And.intro ?_ ?_; focus (first | exact ordP (by kernel_rfl) | with_reducible exact rfl | assumption | trivial | (simp only [inR]; omega) | omega | (intro hh; (try obtain ⟨hh1, hh2⟩ := hh); (repeat' apply And.intro) <;> first | assumption | (simp only [inR]; omega) | omega | (intros; (repeat' apply And.intro) <;> first | assumption | (simp only [inR]; omega) | omega)) | (intros; (repeat' apply And.intro) <;> first | assumption | (simp only [inR]; omega) | omega | (simp_all; done) | (simp_all [inR]; omega))))
  refine hK1 _ ?_
  clear hK1
  refine W_seq (fun K2 hK2 => ?_)
  refine W_seq (fun K3 hK3 => ?_)
  refine W_region hT hG [] [0, 1, 5] ?_
  rw [hnt]
  simp only [baseS, eq_self, implies_true, if_true, if_false, reduceIte, Nat.reduceBEq, Nat.reduceEqDiff, Nat.reduceLT, Nat.reduceAdd, reduceCtorEq, tyInt, tdInt, tyInts, tdInts, storeAV, rowQ, ownInts, FT.of, FT.setf, List.nil_append, Int.toNat_natCast, List.set_cons_zero, ne_eq, not_false_eq_true]
  repeat (refine And.intro ?_ ?_; focus (first | exact ordP (by kernel_rfl) | with_reducible exact rfl | assumption | trivial | (simp only [inR]; omega) | omega | (intro hh; (try obtain ⟨hh1, hh2⟩ := hh); (repeat' apply And.intro) <;> first | assumption | (simp only [inR]; omega) | omega | (intros; (repeat' apply And.intro) <;> first | assumption | (simp only [inR]; omega) | omega)) | (intros; (repeat' apply And.intro) <;> first | assumption | (simp only [inR]; omega) | omega | (simp_all; done) | (simp_all [inR]; omega))))
  refine hK3 _ ?_
  clear hK3
  refine W_block ?_
  refine W_loop (α := Int × List Int) [(0, .ownr 3), (1, .as), (5, .as)] (fun x => ⟨[(0, .sl 0), (1, .int (k + x.1)), (5, .int x.1)], [(0, some (.cl 3 x.2))], 19⟩) (fun x => 0 ≤ x.1 ∧ x.1 ≤ a.length ∧ x.2.length = a.length ∧ ∀ j : Nat, (j : Int) < x.1 → x.2.getD j 0 = k + j) (fun x => (a.length - x.1).toNat) (0, a) ?_ ?_ ?_
  · (try simp only [hnt, hnp]); simp only [Int.add_zero]; rfl
  · exact ⟨by omega, by omega, rfl, fun j hj => by dsimp only at hj; omega⟩
  rintro ⟨i, l⟩ ⟨hi0, hi1, hl, hI⟩
  dsimp only at hi0 hi1 hl hI ⊢
  refine W_seq (fun K5 hK5 => ?_)
  refine W_seq (fun K6 hK6 => ?_)
  refine W_region_mid 2 1 hT hG [] [] [0, 1, 5, 9] ?_
  rw [hnt]
  simp only [baseS, eq_self, implies_true, if_true, if_false, reduceIte, Nat.reduceBEq, Nat.reduceEqDiff, Nat.reduceLT, Nat.reduceAdd, reduceCtorEq, tyInt, tdInt, tyInts, tdInts, storeAV, rowQ, ownInts, FT.of, FT.setf, List.nil_append, Int.toNat_natCast, List.set_cons_zero, ne_eq, not_false_eq_true, List.take_succ_cons, List.take_zero, List.drop_succ_cons, List.drop_zero, List.take_nil, List.drop_nil]
  repeat (refine And.intro ?_ ?_; focus (first | exact ordP (by kernel_rfl) | with_reducible exact rfl | assumption | trivial | (simp only [inR]; omega) | omega | (intro hh; (try obtain ⟨hh1, hh2⟩ := hh); (repeat' apply And.intro) <;> first | assumption | (simp only [inR]; omega) | omega | (intros; (repeat' apply And.intro) <;> first | assumption | (simp only [inR]; omega) | omega)) | (intros; (repeat' apply And.intro) <;> first | assumption | (simp only [inR]; omega) | omega | (simp_all; done) | (simp_all [inR]; omega))))
  refine Mid.intro (hol_lencl ((hT _ _ (by rfl)).slice rfl).1 rfl rfl rfl rfl rfl rfl (by rw [hnt]; decide) rfl rfl) ?_
  try rw [hnt]
  simp only [Mid2, baseS, eq_self, implies_true, if_true, if_false, reduceIte, Nat.reduceBEq, Nat.reduceEqDiff, Nat.reduceLT, Nat.reduceAdd, reduceCtorEq, tyInt, tdInt, tyInts, tdInts, storeAV, rowQ, ownInts, FT.of, FT.setf, List.nil_append, Int.toNat_natCast, List.set_cons_zero, ne_eq, not_false_eq_true, List.take_succ_cons, List.take_zero, List.drop_succ_cons, List.drop_zero, List.take_nil, List.drop_nil]
  repeat (refine And.intro ?_ ?_; focus (first | exact ordP (by kernel_rfl) | with_reducible exact rfl | assumption | trivial | (simp only [inR]; omega) | omega | (intro hh; (try obtain ⟨hh1, hh2⟩ := hh); (repeat' apply And.intro) <;> first | assumption | (simp only [inR]; omega) | omega | (intros; (repeat' apply And.intro) <;> first | assumption | (simp only [inR]; omega) | omega)) | (intros; (repeat' apply And.intro) <;> first | assumption | (simp only [inR]; omega) | omega | (simp_all; done) | (simp_all [inR]; omega))))
  refine hK6 _ ?_
  clear hK6
  refine W_cond (b := _) rfl (fun hc7 => ?_) (fun hc7 => ?_)
  · try simp only [decide_eq_true_eq, decide_eq_false_iff_not, ne_eq, Decidable.not_not, Bool.not_eq_true', Bool.not_eq_false', Bool.or_eq_true, Bool.and_eq_true, Bool.or_eq_false_iff, Bool.and_eq_false_iff] at hc7
    refine W_skip ?_
    simp only [thenQ, blockQ, loopQ, reduceIte, Nat.reduceEqDiff]
    refine hK5 _ ?_
    clear hK5
    refine W_seq (fun K8 hK8 => ?_)
    refine W_block ?_
    refine W_seq (fun K9 hK9 => ?_)
    refine W_region_mid 3 2 hT hG [] [] [0, 1, 5] ?_
    rw [hnt]
    simp only [baseS, eq_self, implies_true, if_true, if_false, reduceIte, Nat.reduceBEq, Nat.reduceEqDiff, Nat.reduceLT, Nat.reduceAdd, reduceCtorEq, tyInt, tdInt, tyInts, tdInts, storeAV, rowQ, ownInts, FT.of, FT.setf, List.nil_append, Int.toNat_natCast, List.set_cons_zero, ne_eq, not_false_eq_true, List.take_succ_cons, List.take_zero, List.drop_succ_cons, List.drop_zero, List.take_nil, List.drop_nil]
    repeat (refine And.intro ?_ ?_; focus (first | exact ordP (by kernel_rfl) | with_reducible exact rfl | assumption | trivial | (simp only [inR]; omega) | omega | (intro hh; (try obtain ⟨hh1, hh2⟩ := hh); (repeat' apply And.intro) <;> first | assumption | (simp only [inR]; omega) | omega | (intros; (repeat' apply And.intro) <;> first | assumption | (simp only [inR]; omega) | omega)) | (intros; (repeat' apply And.intro) <;> first | assumption | (simp only [inR]; omega) | omega | (simp_all; done) | (simp_all [inR]; omega))))
    obtain ⟨hu1, ie1, hie1, _, hsz1, _⟩ := (hT 24 _ (by rfl)).slice rfl
    refine Mid.intro (hol_putcl (ys := l.set i.toNat (k + i)) hu1 hie1 hsz1 (hT _ _ (by rfl)) rfl rfl rfl rfl rfl rfl rfl (by rw [hnt]; decide) (by decide) rfl rfl rfl rfl hi0 (by omega) rfl) ?_
    try rw [hnt]
    simp only [Mid2, baseS, eq_self, implies_true, if_true, if_false, reduceIte, Nat.reduceBEq, Nat.reduceEqDiff, Nat.reduceLT, Nat.reduceAdd, reduceCtorEq, tyInt, tdInt, tyInts, tdInts, storeAV, rowQ, ownInts, FT.of, FT.setf, List.nil_append, Int.toNat_natCast, List.set_cons_zero, ne_eq, not_false_eq_true, List.take_succ_cons, List.take_zero, List.drop_succ_cons, List.drop_zero, List.take_nil, List.drop_nil]
    repeat (refine And.intro ?_ ?_; focus (first | exact ordP (by kernel_rfl) | with_reducible exact rfl | assumption | trivial | (simp only [inR]; omega) | omega | (intro hh; (try obtain ⟨hh1, hh2⟩ := hh); (repeat' apply And.intro) <;> first | assumption | (simp only [inR]; omega) | omega | (intros; (repeat' apply And.intro) <;> first | assumption | (simp only [inR]; omega) | omega)) | (intros; (repeat' apply And.intro) <;> first | assumption | (simp only [inR]; omega) | omega | (simp_all; done) | (simp_all [inR]; omega))))
    refine hK9 _ ?_
    clear hK9
    refine W_region hT hG [] [0, 1, 5] ?_
    rw [hnt]
    simp only [baseS, eq_self, implies_true, if_true, if_false, reduceIte, Nat.reduceBEq, Nat.reduceEqDiff, Nat.reduceLT, Nat.reduceAdd, reduceCtorEq, tyInt, tdInt, tyInts, tdInts, storeAV, rowQ, ownInts, FT.of, FT.setf, List.nil_append, Int.toNat_natCast, List.set_cons_zero, ne_eq, not_false_eq_true]
    repeat (refine And.intro ?_ ?_; focus (first | exact ordP (by kernel_rfl) | with_reducible exact rfl | assumption | trivial | (simp only [inR]; omega) | omega | (intro hh; (try obtain ⟨hh1, hh2⟩ := hh); (repeat' apply And.intro) <;> first | assumption | (simp only [inR]; omega) | omega | (intros; (repeat' apply And.intro) <;> first | assumption | (simp only [inR]; omega) | omega)) | (intros; (repeat' apply And.intro) <;> first | assumption | (simp only [inR]; omega) | omega | (simp_all; done) | (simp_all [inR]; omega))))
    refine hK8 _ ?_
    clear hK8
    refine W_region hT hG [] [0, 1, 5] ?_
    rw [hnt]
    simp only [baseS, eq_self, implies_true, if_true, if_false, reduceIte, Nat.reduceBEq, Nat.reduceEqDiff, Nat.reduceLT, Nat.reduceAdd, reduceCtorEq, tyInt, tdInt, tyInts, tdInts, storeAV, rowQ, ownInts, FT.of, FT.setf, List.nil_append, Int.toNat_natCast, List.set_cons_zero, ne_eq, not_false_eq_true]
    repeat (refine And.intro ?_ ?_; focus (first | exact ordP (by kernel_rfl) | with_reducible exact rfl | assumption | trivial | (simp only [inR]; omega) | omega | (intro hh; (try obtain ⟨hh1, hh2⟩ := hh); (repeat' apply And.intro) <;> first | assumption | (simp only [inR]; omega) | omega | (intros; (repeat' apply And.intro) <;> first | assumption | (simp only [inR]; omega) | omega)) | (intros; (repeat' apply And.intro) <;> first | assumption | (simp only [inR]; omega) | omega | (simp_all; done) | (simp_all [inR]; omega))))
    have e1 : k + i + 1 = k + (i + 1) := by omega
    simp only [e1]
    refine ⟨(i + 1, l.set i.toNat (k + i)), (by (try simp only [hnt, hnp]); rfl), ⟨by dsimp only; omega, by dsimp only; omega, by dsimp only; simp [hl], mark_step hi0 (by omega) hl hI⟩, by dsimp only; omega⟩
  · try simp only [decide_eq_true_eq, decide_eq_false_iff_not, ne_eq, Decidable.not_not, Bool.not_eq_true', Bool.not_eq_false', Bool.or_eq_true, Bool.and_eq_true, Bool.or_eq_false_iff, Bool.and_eq_false_iff] at hc7
    refine W_exit ?_
    simp only [thenQ, blockQ, loopQ, reduceIte, Nat.reduceEqDiff]
    refine hK2 _ ?_
    clear hK2
    refine W_seq (fun K10 hK10 => ?_)
    refine W_region hT hG [] [0, 4] ?_
    rw [hnt]
    simp only [baseS, eq_self, implies_true, if_true, if_false, reduceIte, Nat.reduceBEq, Nat.reduceEqDiff, Nat.reduceLT, Nat.reduceAdd, reduceCtorEq, tyInt, tdInt, tyInts, tdInts, storeAV, rowQ, ownInts, FT.of, FT.setf, List.nil_append, Int.toNat_natCast, List.set_cons_zero, ne_eq, not_false_eq_true]
    repeat (refine And.intro ?_ ?_; focus (first | exact ordP (by kernel_rfl) | with_reducible exact rfl | assumption | trivial | (simp only [inR]; omega) | omega | (intro hh; (try obtain ⟨hh1, hh2⟩ := hh); (repeat' apply And.intro) <;> first | assumption | (simp only [inR]; omega) | omega | (intros; (repeat' apply And.intro) <;> first | assumption | (simp only [inR]; omega) | omega)) | (intros; (repeat' apply And.intro) <;> first | assumption | (simp only [inR]; omega) | omega | (simp_all; done) | (simp_all [inR]; omega))))
    refine hK10 _ ?_
    clear hK10
    refine W_ret ?_
    simp only [thenQ, blockQ, loopQ, retQ, reduceIte, Nat.reduceEqDiff]
    have hend : l = markL a.length k := markL_of hl hI (by omega)
    obtain rfl : i = a.length := by omega
    subst hend
    exact retm 0 rfl rfl rfl rfl (.inr ⟨rfl, rfl⟩) rfl

def runMark2 : List AV → List Own → Option CRes := fun xs os => match xs, os with
    | [.int k], [.sl 3 .i64 a] => some ⟨(0 ≤ k ∧ k ≤ 4611686018427387904) ∧ a.length ≤ 1099511627776, .int (k + a.length), [], [.sl 3 .i64 (markL a.length k)]⟩
    | [.int k], [.cl 3 a] => some ⟨(0 ≤ k ∧ k ≤ 4611686018427387904) ∧ a.length ≤ 1099511627776, .int (k + a.length), [], [.cl 3 (markL a.length k)]⟩
    | _, _ => none
def c_laws_markIntS2 : Ctr where
  modes := [.m, .v .p]
  al := false
  run := runMark2
theorem m_laws_markIntS2 : Meets Try.prog 12 c_laws_markIntS2 :=
  meets_or (run1 := c_laws_markIntS.run) (run2 := c_laws_markIntSc.run) (fun xs os R h hp => by
    unfold runMark2 at h
    split at h
    · cases h; exact .inl ⟨_, rfl, hp, rfl, rfl, rfl⟩
    · cases h; exact .inr ⟨_, rfl, hp, rfl, rfl, rfl⟩
    · cases h) m_laws_markIntS m_laws_markIntSc

end Go.Proofs.Ytpiklifnbbhleaa
