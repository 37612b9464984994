/- Plain laws: no order is better than the best one. No condition. -/
import Derived.Test.YtpiaeckkjdcifaaBestA
import Derived.Test.YtpiaeckkjdcifaaWorstLaw
import Derived.Test.YtpiaeckkjdcifaaSpecB
namespace Go.Proofs.Ytpiaeckkjdcifaa
open Go
set_option linter.unusedVariables false
set_option linter.unusedSimpArgs false

theorem load_perm {b r t : Int} {bs : List BoxD} {p o : List Int} (h : loadB b r t bs p o = true) : o ∈ permF (fullS p) (fullS p).length [] := by
  obtain ⟨h1, h2, h3⟩ := loadB_get h
  have hnd : ∀ k, k ≤ o.length → (o.take k).Nodup := fun k => by
    induction k with
    | zero => intro _; simp
    | succ k ih =>
      intro hk
      have hg := (ord_get (h3 k (by omega))).2.1
      have e : o.take (k + 1) = o.take k ++ [o.getD k 0] := by
        rw [List.take_add_one, List.getElem?_eq_getElem (by omega), Option.toList_some, List.getD_eq_getElem?_getD, List.getElem?_eq_getElem (by omega)]; rfl
      rw [e, List.nodup_append]
      refine ⟨ih (by omega), by simp, fun x hx y hy => ?_⟩
      rw [List.mem_singleton] at hy
      intro exy
      rw [← hy, ← exy] at hg
      exact hg hx
  have hno : o.Nodup := by have := hnd o.length (Nat.le_refl _); rwa [List.take_length] at this
  have hin : ∀ x ∈ o, x ∈ fullS p := fun x hx => by
    obtain ⟨k, hk, e⟩ := mem_getD hx
    have hg := (ord_get (h3 k hk)).1
    rw [e] at hg
    exact full_mem.2 ⟨x.toNat, by omega, by omega, hg.2⟩
  have := perm_mem (fullS p) o [] (by simpa using hno) hin
  rw [show (fullS p).length = o.length by omega]
  simpa using this
theorem load_nodup {b r t : Int} {bs : List BoxD} {p o : List Int} (h : loadB b r t bs p o = true) : o.Nodup ∧ ∀ x ∈ o, x ∈ fullS p := by
  obtain ⟨h1, h2, h3⟩ := loadB_get h
  have hnd : ∀ k, k ≤ o.length → (o.take k).Nodup := fun k => by
    induction k with
    | zero => intro _; simp
    | succ k ih =>
      intro hk
      have hg := (ord_get (h3 k (by omega))).2.1
      have e : o.take (k + 1) = o.take k ++ [o.getD k 0] := by
        rw [List.take_add_one, List.getElem?_eq_getElem (by omega), Option.toList_some, List.getD_eq_getElem?_getD, List.getElem?_eq_getElem (by omega)]; rfl
      rw [e, List.nodup_append]
      refine ⟨ih (by omega), by simp, fun x hx y hy => ?_⟩
      rw [List.mem_singleton] at hy
      intro exy
      rw [← hy, ← exy] at hg
      exact hg hx
  have hno : o.Nodup := by have := hnd o.length (Nat.le_refl _); rwa [List.take_length] at this
  have hin : ∀ x ∈ o, x ∈ fullS p := fun x hx => by
    obtain ⟨k, hk, e⟩ := mem_getD hx
    have hg := (ord_get (h3 k hk)).1
    rw [e] at hg
    exact full_mem.2 ⟨x.toNat, by omega, by omega, hg.2⟩
  exact ⟨hno, hin⟩
/-- No order is better than the best one. -/
theorem best_le {b r t : Int} {bs : List BoxD} {p o : List Int} (h : loadB b r t bs p o = true) (hok : bestOK b r t bs p = true) : 0 ≤ worstR b r t bs p (bestR b r t bs p) ∧ worstR b r t bs p (bestR b r t bs p) ≤ worstR b r t bs p o := by
  obtain ⟨_, h2, h3⟩ := foldB_law b r t bs p (permF (fullS p) (fullS p).length []) ([], -1)
  obtain ⟨h4, h5⟩ := h2 o (load_perm h) (worst_load h)
  rw [bestR, if_pos hok, foldB]
  rcases h3 with h3 | ⟨o', _, h6, h7⟩
  · rw [h3] at h4; simp at h4
  · rw [h6] at h5 ⊢
    exact ⟨h7, h5⟩
theorem best_fin {c : Bool} {x y : Int} {P : Prop} (h : c = true → P ∧ x ≤ y) : (!c || decide (x ≤ y)) = true := by
  cases c with
  | false => rfl
  | true => rw [decide_eq_true (h rfl).2]; rfl
theorem bestR_len (b r t : Int) (bs : List BoxD) (p : List Int) : (bestR b r t bs p).length ≤ (fullS p).length := by
  rw [bestR]
  split
  · obtain ⟨_, _, h3⟩ := foldB_law b r t bs p (permF (fullS p) (fullS p).length []) ([], -1)
    rw [foldB]
    rcases h3 with h3 | ⟨o', h5, h6, h7⟩
    · rw [h3]; exact Nat.zero_le _
    · rw [h6]
      obtain ⟨o2, e1, e2, _⟩ := perm_len _ _ _ _ h5
      rw [e1]; simp [e2]
  · exact Nat.zero_le _

end Go.Proofs.Ytpiaeckkjdcifaa
namespace Go.Proofs.Ytpiaeckkjdcifaa
open Go
set_option linter.unusedVariables false
set_option linter.unusedSimpArgs false

theorem bit_add {x : Int} {k j : Nat} (hk : k < 7) (hj : j < 7) (h0 : 0 ≤ x) (h : ¬ x / 2 ^ k % 2 = 1) : (x + 2 ^ k) / 2 ^ j % 2 = if j = k then 1 else x / 2 ^ j % 2 := by
  match k, hk, j, hj with
  | 0, _, 0, _ => (simp at h ⊢) <;> omega
  | 0, _, 1, _ => (simp at h ⊢) <;> omega
  | 0, _, 2, _ => (simp at h ⊢) <;> omega
  | 0, _, 3, _ => (simp at h ⊢) <;> omega
  | 0, _, 4, _ => (simp at h ⊢) <;> omega
  | 0, _, 5, _ => (simp at h ⊢) <;> omega
  | 0, _, 6, _ => (simp at h ⊢) <;> omega
  | 1, _, 0, _ => (simp at h ⊢) <;> omega
  | 1, _, 1, _ => (simp at h ⊢) <;> omega
  | 1, _, 2, _ => (simp at h ⊢) <;> omega
  | 1, _, 3, _ => (simp at h ⊢) <;> omega
  | 1, _, 4, _ => (simp at h ⊢) <;> omega
  | 1, _, 5, _ => (simp at h ⊢) <;> omega
  | 1, _, 6, _ => (simp at h ⊢) <;> omega
  | 2, _, 0, _ => (simp at h ⊢) <;> omega
  | 2, _, 1, _ => (simp at h ⊢) <;> omega
  | 2, _, 2, _ => (simp at h ⊢) <;> omega
  | 2, _, 3, _ => (simp at h ⊢) <;> omega
  | 2, _, 4, _ => (simp at h ⊢) <;> omega
  | 2, _, 5, _ => (simp at h ⊢) <;> omega
  | 2, _, 6, _ => (simp at h ⊢) <;> omega
  | 3, _, 0, _ => (simp at h ⊢) <;> omega
  | 3, _, 1, _ => (simp at h ⊢) <;> omega
  | 3, _, 2, _ => (simp at h ⊢) <;> omega
  | 3, _, 3, _ => (simp at h ⊢) <;> omega
  | 3, _, 4, _ => (simp at h ⊢) <;> omega
  | 3, _, 5, _ => (simp at h ⊢) <;> omega
  | 3, _, 6, _ => (simp at h ⊢) <;> omega
  | 4, _, 0, _ => (simp at h ⊢) <;> omega
  | 4, _, 1, _ => (simp at h ⊢) <;> omega
  | 4, _, 2, _ => (simp at h ⊢) <;> omega
  | 4, _, 3, _ => (simp at h ⊢) <;> omega
  | 4, _, 4, _ => (simp at h ⊢) <;> omega
  | 4, _, 5, _ => (simp at h ⊢) <;> omega
  | 4, _, 6, _ => (simp at h ⊢) <;> omega
  | 5, _, 0, _ => (simp at h ⊢) <;> omega
  | 5, _, 1, _ => (simp at h ⊢) <;> omega
  | 5, _, 2, _ => (simp at h ⊢) <;> omega
  | 5, _, 3, _ => (simp at h ⊢) <;> omega
  | 5, _, 4, _ => (simp at h ⊢) <;> omega
  | 5, _, 5, _ => (simp at h ⊢) <;> omega
  | 5, _, 6, _ => (simp at h ⊢) <;> omega
  | 6, _, 0, _ => (simp at h ⊢) <;> omega
  | 6, _, 1, _ => (simp at h ⊢) <;> omega
  | 6, _, 2, _ => (simp at h ⊢) <;> omega
  | 6, _, 3, _ => (simp at h ⊢) <;> omega
  | 6, _, 4, _ => (simp at h ⊢) <;> omega
  | 6, _, 5, _ => (simp at h ⊢) <;> omega
  | 6, _, 6, _ => (simp at h ⊢) <;> omega
/-- The set X is that of the slots of acc. -/
structure Msk (s acc : List Int) (X : Int) : Prop where
  lo : 0 ≤ X
  hi : X < 2 ^ s.length
  bit : ∀ k, k < s.length → (X / 2 ^ k % 2 = 1 ↔ s.getD k 0 ∈ acc)
theorem Msk.nil {s : List Int} (hn : s.length ≤ 7) : Msk s [] 0 := by
  have := two_pow_le hn
  exact ⟨Int.le_refl _, by omega, fun k _ => by simp⟩
theorem get_ne {s : List Int} (hs : s.Pairwise (· < ·)) {j k : Nat} (hj : j < s.length) (hk : k < s.length) (h : j ≠ k) : s.getD j 0 ≠ s.getD k 0 := by
  have e : ∀ i (hi : i < s.length), s.getD i 0 = s[i] := fun i hi => by rw [List.getD_eq_getElem?_getD, List.getElem?_eq_getElem hi]; rfl
  rw [e j hj, e k hk]
  rcases Nat.lt_or_gt_of_ne h with h | h
  · have := List.pairwise_iff_getElem.1 hs j k hj hk h; omega
  · have := List.pairwise_iff_getElem.1 hs k j hk hj h; omega
theorem Msk.nbit {s acc : List Int} {X : Int} {k : Nat} (M : Msk s acc X) (hk : k < s.length) (hx : s.getD k 0 ∉ acc) : ¬ X / 2 ^ k % 2 = 1 := fun h => hx ((M.bit k hk).1 h)
theorem Msk.add {s acc : List Int} {X : Int} (hn : s.length ≤ 7) (hs : s.Pairwise (· < ·)) (M : Msk s acc X) {k : Nat} (hk : k < s.length) (hx : s.getD k 0 ∉ acc) : Msk s (acc ++ [s.getD k 0]) (X + 2 ^ k) := by
  have hb := M.nbit hk hx
  have hp := two_pow_le (n := k) (by omega)
  refine ⟨by have := M.lo; omega, add_bit hn hk M.lo M.hi hb, fun j hj => ?_⟩
  rw [bit_add (by omega) (by omega) M.lo hb]
  by_cases e : j = k
  · subst e; simp
  · rw [if_neg e, M.bit j hj, List.mem_append, List.mem_singleton]
    exact ⟨.inl, fun h => h.elim id fun h => absurd h (get_ne hs hj hk e)⟩
theorem setH_add {r t : Int} {bs : List BoxD} {p s : List Int} {X : Int} (hn : s.length ≤ 7) (h0 : 0 ≤ X) {k : Nat} (hk : k < s.length) (hb : ¬ X / 2 ^ k % 2 = 1) : ∀ m, m ≤ s.length → setH r t bs p s (X + 2 ^ k) m = setH r t bs p s X m + if k < m then armS r t bs p (s.getD k 0) else 0
  | 0, _ => by simp [setH]
  | m + 1, hm => by
    have ih := setH_add (r := r) (t := t) (bs := bs) (p := p) hn h0 hk hb m (by omega)
    rw [setH, setH, ih, bit_add (by omega) (by omega) h0 hb]
    by_cases e : m = k
    · subst e
      rw [if_pos rfl, if_pos rfl, if_neg (Nat.lt_irrefl _), if_neg hb, if_pos (by omega), Int.add_zero]
    · rw [if_neg e]
      have e2 : (if k < m then armS r t bs p (s.getD k 0) else 0) = (if k < m + 1 then armS r t bs p (s.getD k 0) else 0) := by
        by_cases h1 : k < m
        · rw [if_pos h1, if_pos (by omega)]
        · rw [if_neg h1, if_neg (by omega)]
      rw [e2]
      exact Int.add_right_comm _ _ _
theorem setH_z {r t : Int} {bs : List BoxD} {p s : List Int} : ∀ m, setH r t bs p s 0 m = 0
  | 0 => rfl
  | m + 1 => by rw [setH, setH_z m]; simp
/-- The heel behind n slots depends on them alone. -/
theorem whF_congr {r t : Int} {bs : List BoxD} {p o o' : List Int} : ∀ n, (∀ k, k < n → o.getD k 0 = o'.getD k 0) → whF r t bs p o n = whF r t bs p o' n
  | 0, _ => rfl
  | n + 1, h => by
    have ih := whF_congr (r := r) (t := t) (bs := bs) (p := p) n (fun k hk => h k (by omega))
    rw [whF, whF, ih, h n (by omega)]
theorem app_get (acc : List Int) (o : List Int) {k : Nat} (h : k < acc.length) : (acc ++ o).getD k 0 = acc.getD k 0 := by
  rw [List.getD_eq_getElem?_getD, List.getElem?_append_left h, ← List.getD_eq_getElem?_getD]
theorem app_at (acc o : List Int) (x : Int) : (acc ++ x :: o).getD acc.length 0 = x := by
  rw [List.getD_eq_getElem?_getD, List.getElem?_append_right (Nat.le_refl _), Nat.sub_self]; rfl
theorem whF_app (r t : Int) (bs : List BoxD) (p acc : List Int) (x : Int) : whF r t bs p (acc ++ [x]) (acc.length + 1) = ((whF r t bs p acc acc.length).1 + armS r t bs p x, max (max (whF r t bs p acc acc.length).2 ((whF r t bs p acc acc.length).1 + armS r t bs p x)) (-((whF r t bs p acc acc.length).1 + armS r t bs p x))) := by
  rw [whF, whF_congr acc.length (fun k hk => app_get acc [x] hk), app_at]
  rfl
/-- What can be next, by what has come. -/
theorem next_iff {b r t : Int} {bs : List BoxD} {p acc : List Int} (h : PlanOK b r t bs p) {X : Int} (M : Msk (fullS p) acc X) {k : Nat} (hk : k < (fullS p).length) (hx : (fullS p).getD k 0 ∉ acc) :
    nxtB b r t (fullS p) X k = true ↔ (0 < (fullS p).getD k 0 % t → (fullS p).getD k 0 - 1 ∈ acc) := by
  have hb := M.nbit hk hx
  have hin := full_in2 p k hk
  have hz := fullS_get (p := p) (j := (k : Int)) (by omega) (by omega)
  rw [Int.toNat_natCast] at hz
  have hlen := h.len
  have hbel := belF_in h.ship hin.1 (by omega : (fullS p).getD k 0 < b * r * t)
  constructor
  · intro hn hm
    simp only [nxtB, Bool.and_eq_true, List.all_eq_true] at hn
    rw [if_pos hm] at hbel
    have hge : 1 ≤ (fullS p).getD k 0 := by
      rcases Int.lt_or_le 0 ((fullS p).getD k 0) with h1 | h1
      · exact h1
      · have : (fullS p).getD k 0 = 0 := by omega
        rw [this] at hm; simp at hm
    have hf := h.firm ((fullS p).getD k 0).toNat (by omega) hz.2.2 (by rw [show ((((fullS p).getD k 0).toNat : Nat) : Int) = (fullS p).getD k 0 by omega]; exact hm)
    have hmem : (fullS p).getD k 0 - 1 ∈ fullS p := selTo_mem.2 ⟨((fullS p).getD k 0).toNat - 1, by omega, by omega, by simpa [fullP] using hf⟩
    obtain ⟨j, hj, ej⟩ := List.getElem_of_mem hmem
    have ej2 : (fullS p).getD j 0 = (fullS p).getD k 0 - 1 := by rw [List.getD_eq_getElem?_getD, List.getElem?_eq_getElem hj]; exact ej
    have ho := hn.2 j (List.mem_range.2 hj)
    rw [okJ, hbel, decide_eq_true ej2, Bool.true_and, Bool.not_eq_true', decide_eq_false_iff_not] at ho
    have := (M.bit j hj).1 (by omega)
    rw [ej2] at this
    exact this
  · intro hm
    rw [nxtB, decide_eq_false hb, Bool.not_false, Bool.true_and, List.all_eq_true]
    intro j hj
    have hj := List.mem_range.1 hj
    refine ok_good fun he => ?_
    rw [hbel] at he
    split at he
    · rename_i h1
      have := (M.bit j hj).2 (by rw [he]; exact hm h1)
      omega
    · have := (full_in2 p j hj).1; omega
theorem heelsF_get {r t : Int} {bs : List BoxD} {p : List Int} {X : Int} (h0 : 0 ≤ X) (h1 : X < 2 ^ (fullS p).length) (hn : (fullS p).length ≤ 7) : (hsR r t bs p).getD X.toNat 0 = max (setH r t bs p (fullS p) X (fullS p).length) (-setH r t bs p (fullS p) X (fullS p).length) := by
  have hpn := two_pow_nat hn
  have e : ((X.toNat : Nat) : Int) = X := by omega
  have hlt : X.toNat < 2 ^ (fullS p).length := by have := hpn.2.2; omega
  rw [hsR, heelsF, List.getD_eq_getElem?_getD, List.getElem?_map, List.getElem?_range hlt]
  simp only [Option.map_some, Option.getD_some, e]
theorem ord_pre {t : Int} {p acc o : List Int} {k : Nat} (hk : k < acc.length) : ordB t p (acc ++ o) k = ordB t p acc k := by
  rw [ordB, ordB, app_get acc o hk, List.take_append_of_le_length (by omega)]
theorem ord_next {t : Int} {p acc o : List Int} {x : Int} (h : ordB t p (acc ++ x :: o) acc.length = true) : x ∉ acc ∧ (0 < x % t → x - 1 ∈ acc) := by
  have hg := ord_get h
  rw [app_at, List.take_left'] at hg
  · exact hg.2
  · rfl
theorem ord_make {t : Int} {p acc : List Int} {x : Int} (h0 : 0 ≤ x ∧ x < p.length) (h1 : p.getD x.toNat 0 ≠ 0) (h2 : x ∉ acc) (h3 : 0 < x % t → x - 1 ∈ acc) : ordB t p (acc ++ [x]) acc.length = true := by
  have e : (acc ++ [x]).take acc.length = acc := List.take_left' rfl
  refine ord_of ⟨⟨⟨?_, ?_⟩, ?_⟩, ?_⟩ ?_
  · rw [app_at]; exact h0.1
  · rw [app_at]; omega
  · rw [app_at]; exact h1
  · rw [app_at, e]; exact h2
  · rw [app_at, e]
    by_cases h : 0 < x % t
    · exact .inr (h3 h)
    · exact .inl h
theorem least_step {b r t : Int} {bs : List BoxD} {p : List Int} (hn : (fullS p).length ≤ 7) {X : Int} (h0 : 0 ≤ X) (h1 : X < 2 ^ (fullS p).length) {k : Nat} (hk : k < (fullS p).length) (hb : nxtB b r t (fullS p) X k = true) : (lsR b r t bs p).getD X.toNat 0 ≤ max ((hsR r t bs p).getD (X + 2 ^ k).toNat 0) ((lsR b r t bs p).getD (X + 2 ^ k).toNat 0) := by
  have hpn := two_pow_nat hn
  have hhs : (hsR r t bs p).length = 2 ^ (fullS p).length := heelsF_len _ _ _ _ _ _
  have hidx : ∀ k, k < (fullS p).length → nxtB b r t (fullS p) X k = true → (X + 2 ^ k).toNat < (hsR r t bs p).length ∧ X + 2 ^ k < 2 ^ (fullS p).length := fun k hk hb => by
    have hid := next_idx hn (k := (k : Int)) (by omega) (by omega) h0 h1 (by rw [Int.toNat_natCast]; exact hb)
    rw [Int.toNat_natCast] at hid
    rw [hhs]; have := hpn.2.2; exact ⟨by omega, hid.2⟩
  have hp := two_pow_le (n := k) (by omega)
  have hlx : X.toNat + 1 < (hsR r t bs p).length := by
    have := hidx k hk hb
    rw [hhs] at this ⊢; have := hpn.2.2; omega
  have hh : ∀ k, k < (hsR r t bs p).length → 0 ≤ (hsR r t bs p).getD k 0 := fun k hk => heelsF_nn (by rw [hhs] at hk; exact hk)
  have hl := bestK_law (b := b) (r := r) (t := t) (s := fullS p) (hs := hsR r t bs p) (l := lsR b r t bs p) (x := X) (fun k hk hb => by have := hh _ (hidx k hk hb).1; omega) (fullS p).length (Nat.le_refl _)
  have := (hl.2 k hk hb).2
  have hg := leastF_get (b := b) (r := r) (t := t) hn hhs hlx
  rw [Int.toNat_of_nonneg h0] at hg
  show (leastF b r t (fullS p) (hsR r t bs p)).getD X.toNat 0 ≤ _
  rw [hg]
  exact this
/-- No order that begins with acc is better than the list says. -/
theorem least_le {b r t : Int} {bs : List BoxD} {p : List Int} (hok : PlanOK b r t bs p) (hn : (fullS p).length ≤ 7) : ∀ (m : Nat) (acc o : List Int) (X : Int), acc.length + m = (fullS p).length → Msk (fullS p) acc X → (whF r t bs p acc acc.length).1 = setH r t bs p (fullS p) X (fullS p).length →
    o ∈ permF (fullS p) m acc → loadB b r t bs p o = true → (lsR b r t bs p).getD X.toNat 0 ≤ worstR b r t bs p o
  | 0, acc, o, X, hl, M, hH, ho, hld => by
    have hpn := two_pow_nat hn
    have hhs : (hsR r t bs p).length = 2 ^ (fullS p).length := heelsF_len _ _ _ _ _ _
    simp only [permF, List.mem_singleton] at ho
    subst ho
    have hX : X = 2 ^ (fullS p).length - 1 := bits_all hn M.lo M.hi fun k hk => (M.bit k hk).2 (by
      obtain ⟨h1, h2, h3⟩ := loadB_get hld
      have hm := load_perm hld
      have hmem : (fullS p).getD k 0 ∈ fullS p := by rw [List.getD_eq_getElem?_getD, List.getElem?_eq_getElem hk]; exact List.getElem_mem hk
      refine Classical.byContradiction fun hno => ?_
      have hnd : o.Nodup ∧ ∀ x ∈ o, x ∈ fullS p := load_nodup hld
      have := pig ((fullS p).getD k 0 :: o) (fullS p) (List.nodup_cons.2 ⟨hno, hnd.1⟩) (fun y hy => by
        rcases List.mem_cons.1 hy with e | e
        · rw [e]; exact hmem
        · exact hnd.2 y e)
      rw [List.length_cons] at this
      omega)
    have e : X.toNat = (hsR r t bs p).length - 1 := by rw [hhs]; have := hpn.2.2; omega
    rw [e, lsR, leastF_last (by rw [hhs]; omega)]
    exact worst_load hld
  | m + 1, acc, o, X, hl, M, hH, ho, hld => by
    simp only [permF, List.mem_flatMap] at ho
    obtain ⟨x, hx, ho⟩ := ho
    split at ho
    · simp at ho
    · rename_i hna
      obtain ⟨k, hk, ek⟩ := List.getElem_of_mem hx
      have ek2 : (fullS p).getD k 0 = x := by rw [List.getD_eq_getElem?_getD, List.getElem?_eq_getElem hk]; exact ek
      subst ek2
      obtain ⟨o', eo, _, _⟩ := perm_len _ _ _ _ ho
      have eo2 : o = acc ++ (fullS p).getD k 0 :: o' := by rw [eo]; simp
      obtain ⟨h1, h2, h3⟩ := loadB_get hld
      have hlt : acc.length < o.length := by rw [eo2]; simp
      have hor := h3 acc.length hlt
      rw [eo2] at hor
      have hnx := (next_iff hok M hk hna).2 (ord_next hor).2
      have hnb := M.nbit hk hna
      have M2 := M.add hn (full_asc p) hk hna
      have hH2 : (whF r t bs p (acc ++ [(fullS p).getD k 0]) (acc ++ [(fullS p).getD k 0]).length).1 = setH r t bs p (fullS p) (X + 2 ^ k) (fullS p).length := by
        rw [List.length_append, List.length_singleton, whF_app, setH_add hn M.lo hk hnb _ (Nat.le_refl _), if_pos hk, hH]
      have ih := least_le hok hn m _ o (X + 2 ^ k) (by rw [List.length_append, List.length_singleton]; omega) M2 hH2 ho hld
      have hst := least_step (b := b) (r := r) (t := t) (bs := bs) hn M.lo M.hi hk hnx
      rw [heelsF_get M2.lo M2.hi hn, ← hH2] at hst
      have hab := whF_abs r t bs p o (acc.length + 1)
      have hmo := whF_mono r t bs p o o.length (acc.length + 1) (by omega)
      have hcg : whF r t bs p (acc ++ [(fullS p).getD k 0]) (acc ++ [(fullS p).getD k 0]).length = whF r t bs p o (acc.length + 1) := by
        rw [List.length_append, List.length_singleton]
        refine whF_congr _ fun j hj => ?_
        rw [eo]
        exact (app_get (acc ++ [(fullS p).getD k 0]) o' (by rw [List.length_append, List.length_singleton]; omega)).symm
      rw [hcg] at hst
      have hw : worstR b r t bs p o = (whF r t bs p o o.length).2 := by rw [worstR, if_pos hld]
      omega
/-- What is looked for. -/
def goodW (b r t : Int) (bs : List BoxD) (p : List Int) (w : Int) (o : List Int) : Bool := decide (0 ≤ worstR b r t bs p o ∧ worstR b r t bs p o ≤ w)
theorem find_flat {c : List Int → Bool} {f : Int → List (List Int)} {o : List Int} : ∀ (s : List Int) (k : Nat), k < s.length → (f (s.getD k 0)).find? c = some o → (∀ j, j < k → (f (s.getD j 0)).find? c = none) → (s.flatMap f).find? c = some o
  | [], k, h, _, _ => by simp at h
  | x :: s, 0, _, h1, _ => by
    rw [List.flatMap_cons, List.find?_append]
    have h1 : (f x).find? c = some o := h1
    rw [h1]; rfl
  | x :: s, k + 1, h, h1, h2 => by
    rw [List.flatMap_cons, List.find?_append]
    have h3 : (f x).find? c = none := h2 0 (by omega)
    rw [h3, Option.none_or]
    exact find_flat s k (by simpa using h) h1 (fun j hj => h2 (j + 1) (by omega))
/-- The first order that begins with acc and has no greater heel than w. -/
theorem find_gr {b r t : Int} {bs : List BoxD} {p : List Int} (hpl : planB b r t bs p = true) (hn : (fullS p).length ≤ 7) (w : Int) (hw0 : 0 ≤ w) : ∀ (m : Nat) (acc : List Int) (X : Int) (f : Nat), acc.length + m = (fullS p).length → m ≤ f → Msk (fullS p) acc X → (whF r t bs p acc acc.length).1 = setH r t bs p (fullS p) X (fullS p).length →
    (∀ k, k < acc.length → ordB t p acc k = true) → (whF r t bs p acc acc.length).2 ≤ w → (lsR b r t bs p).getD X.toNat 0 ≤ w →
    (permF (fullS p) m acc).find? (goodW b r t bs p w) = some (acc ++ grF b r t (fullS p) (hsR r t bs p) (lsR b r t bs p) w f X)
  | 0, acc, X, f, hl, hf, M, hH, hor, hwh, hls => by
    have hld : loadB b r t bs p acc = true := by
      simp only [loadB, hpl, Bool.true_and, Bool.and_eq_true, decide_eq_true_eq, List.all_eq_true, List.mem_range]
      exact ⟨by omega, hor⟩
    have hall : ∀ k, k < (fullS p).length → X / 2 ^ k % 2 = 1 := fun k hk => (M.bit k hk).2 (by
      have hmem : (fullS p).getD k 0 ∈ fullS p := by rw [List.getD_eq_getElem?_getD, List.getElem?_eq_getElem hk]; exact List.getElem_mem hk
      refine Classical.byContradiction fun hno => ?_
      have hnd := load_nodup hld
      have := pig ((fullS p).getD k 0 :: acc) (fullS p) (List.nodup_cons.2 ⟨hno, hnd.1⟩) (fun y hy => by
        rcases List.mem_cons.1 hy with e | e
        · rw [e]; exact hmem
        · exact hnd.2 y e)
      rw [List.length_cons] at this
      omega)
    have hX := bits_all hn M.lo M.hi hall
    rw [grF_end (by omega), List.append_nil, permF, List.find?_cons]
    have hg : goodW b r t bs p w acc = true := by
      rw [goodW, decide_eq_true_eq]
      exact ⟨worst_load hld, by rw [worstR, if_pos hld]; exact hwh⟩
    rw [hg]
  | m + 1, acc, X, f, hl, hf, M, hH, hor, hwh, hls => by
    have hok := planB_ok hpl
    have hX : X < 2 ^ (fullS p).length - 1 := Classical.byContradiction fun h => by
      have hXe : X = 2 ^ (fullS p).length - 1 := by have := M.hi; omega
      have hsub : ∀ x ∈ fullS p, x ∈ acc := fun x hx => by
        obtain ⟨k, hk, ek⟩ := List.getElem_of_mem hx
        have ek2 : (fullS p).getD k 0 = x := by rw [List.getD_eq_getElem?_getD, List.getElem?_eq_getElem hk]; exact ek
        rw [← ek2]
        refine (M.bit k hk).1 (Classical.byContradiction fun hb => ?_)
        have := add_bit hn hk M.lo M.hi hb
        have hp := two_pow_le (n := k) (by omega)
        omega
      have := pig (fullS p) acc (List.Pairwise.imp (fun h => by omega) (full_asc p)) hsub
      omega
    obtain ⟨k0, hk0, hc0⟩ := cnd_ex (b := b) (r := r) (t := t) (bs := bs) hn M.lo hX hls
    obtain ⟨k, hk, hc, hmin⟩ := least_k (fun k => cndB b r t (fullS p) (hsR r t bs p) (lsR b r t bs p) w X k = true) _ ⟨k0, hk0, hc0⟩
    have hst := grF_step (f := f) (x := X) (k := (k : Int)) (by omega) hX (by omega) (by omega) (by rw [Int.toNat_natCast]; exact hc) (fun j hj => by
      cases h : cndB b r t (fullS p) (hsR r t bs p) (lsR b r t bs p) w X j with
      | false => rfl
      | true => exact absurd h (hmin j (by omega)))
    rw [Int.toNat_natCast] at hst
    have hcc := hc
    simp only [cndB, Bool.and_eq_true, decide_eq_true_eq] at hcc
    have hnb := next_nbit hcc.1
    have hna : (fullS p).getD k 0 ∉ acc := fun h => hnb ((M.bit k hk).2 h)
    have M2 := M.add hn (full_asc p) hk hna
    have hH2 : ∀ j, j < (fullS p).length → (fullS p).getD j 0 ∉ acc → (whF r t bs p (acc ++ [(fullS p).getD j 0]) (acc ++ [(fullS p).getD j 0]).length).1 = setH r t bs p (fullS p) (X + 2 ^ j) (fullS p).length := fun j hj hja => by
      rw [List.length_append, List.length_singleton, whF_app, setH_add hn M.lo hj (M.nbit hj hja) _ (Nat.le_refl _), if_pos hj, hH]
    have hin := full_in2 p k hk
    have hz := fullS_get (p := p) (j := (k : Int)) (by omega) (by omega)
    rw [Int.toNat_natCast] at hz
    rw [hst, permF]
    refine find_flat (fullS p) k hk ?_ fun j hj => ?_
    · rw [if_neg hna]
      have hmx := hcc.2
      rw [heelsF_get M2.lo M2.hi hn, ← hH2 k hk hna] at hmx
      have ih := find_gr hpl hn w hw0 m (acc ++ [(fullS p).getD k 0]) (X + 2 ^ k) (f - 1) (by rw [List.length_append, List.length_singleton]; omega) (by omega) M2 (hH2 k hk hna) (fun i hi => by
        rw [List.length_append, List.length_singleton] at hi
        by_cases e : i = acc.length
        · subst e
          exact ord_make hin hz.2.2 hna ((next_iff hok M hk hna).1 hcc.1)
        · rw [ord_pre (by omega)]; exact hor i (by omega)) (by
        rw [List.length_append, List.length_singleton, whF_app] at hmx ⊢
        dsimp only at hmx ⊢
        omega) (by omega)
      rw [ih, List.append_assoc]; rfl
    · have hjn : j < (fullS p).length := by omega
      split
      · rfl
      · rename_i hja
        rw [List.find?_eq_none]
        intro o ho
        rw [goodW, decide_eq_true_eq]
        rintro ⟨hw1, hw2⟩
        have hld := worst_nn hw1
        obtain ⟨o', eo, _, _⟩ := perm_len _ _ _ _ ho
        have eo2 : o = acc ++ (fullS p).getD j 0 :: o' := by rw [eo]; simp
        obtain ⟨h1, h2, h3⟩ := loadB_get hld
        have hlt : acc.length < o.length := by rw [eo2]; simp
        have horj := h3 acc.length hlt
        rw [eo2] at horj
        have hnx := (next_iff hok M hjn hja).2 (ord_next horj).2
        have Mj := M.add hn (full_asc p) hjn hja
        have hle := least_le hok hn m _ o (X + 2 ^ j) (by rw [List.length_append, List.length_singleton]; omega) Mj (hH2 j hjn hja) ho hld
        have hab := whF_abs r t bs p o (acc.length + 1)
        have hmo := whF_mono r t bs p o o.length (acc.length + 1) (by omega)
        have hcg : whF r t bs p (acc ++ [(fullS p).getD j 0]) (acc ++ [(fullS p).getD j 0]).length = whF r t bs p o (acc.length + 1) := by
          rw [List.length_append, List.length_singleton]
          refine whF_congr _ fun i hi => ?_
          rw [eo]
          exact (app_get (acc ++ [(fullS p).getD j 0]) o' (by rw [List.length_append, List.length_singleton]; omega)).symm
        have hw : worstR b r t bs p o = (whF r t bs p o o.length).2 := by rw [worstR, if_pos hld]
        refine hmin j hj ?_
        simp only [cndB, hnx, Bool.true_and, decide_eq_true_eq]
        rw [heelsF_get Mj.lo Mj.hi hn, ← hH2 j hjn hja, hcg]
        omega
theorem fold_find {b r t : Int} {bs : List BoxD} {p : List Int} {w : Int} (hw : 0 ≤ w) : ∀ (os : List (List Int)) (x : List Int × Int) (o : List Int), (x.2 < 0 ∨ w < x.2) → os.find? (goodW b r t bs p w) = some o → (∀ o ∈ os, 0 ≤ worstR b r t bs p o → w ≤ worstR b r t bs p o) → (os.foldl (stepB b r t bs p) x) = (o, w)
  | [], _, _, _, h, _ => by simp at h
  | o1 :: os, x, o, hx, h, hmin => by
    rw [List.find?_cons] at h
    rw [List.foldl_cons]
    cases hg : goodW b r t bs p w o1 with
    | true =>
      rw [hg] at h
      simp only [Option.some.injEq] at h
      subst h
      rw [goodW, decide_eq_true_eq] at hg
      have he : worstR b r t bs p o1 = w := by have := hmin o1 (by simp) hg.1; omega
      have hs : stepB b r t bs p x o1 = (o1, w) := by
        rw [stepB, he, if_pos ⟨hw, hx⟩]
      rw [hs]
      -- behind it nothing is better
      have : ∀ (os : List (List Int)), (∀ o ∈ os, 0 ≤ worstR b r t bs p o → w ≤ worstR b r t bs p o) → os.foldl (stepB b r t bs p) (o1, w) = (o1, w) := by
        intro os
        induction os with
        | nil => intro _; rfl
        | cons o2 os ih =>
          intro hm
          rw [List.foldl_cons]
          have hs2 : stepB b r t bs p (o1, w) o2 = (o1, w) := by
            rw [stepB, if_neg]
            rintro ⟨h1, h2⟩
            have h3 := hm o2 (by simp) h1
            dsimp only at h2
            omega
          rw [hs2]
          exact ih fun o ho => hm o (by simp [ho])
      exact this os fun o ho => hmin o (by simp [ho])
    | false =>
      rw [hg] at h
      simp only [goodW, decide_eq_false_iff_not] at hg
      refine fold_find hw os _ o ?_ h fun o ho => hmin o (by simp [ho])
      rcases stepB_cases b r t bs p x o1 with ⟨e, g1, g2⟩ | ⟨e, _⟩
      · rw [e]; dsimp only; omega
      · rw [e]; exact hx
/-- The program's best order is the reference's. -/
theorem best_eq {b r t : Int} {bs : List BoxD} {p : List Int} : bestS b r t bs p = bestR b r t bs p := by
  cases hok : bestOK b r t bs p with
  | false =>
    rw [bestR, hok, bestS, if_neg]
    · rfl
    · rintro ⟨h1, h2⟩
      simp [bestOK, h1, h2] at hok
  | true =>
    have h2 := hok
    simp only [bestOK, Bool.and_eq_true, decide_eq_true_eq] at h2
    obtain ⟨hpl, hn⟩ := h2
    have hpk := planB_ok hpl
    have hpn := two_pow_nat hn
    have hhs : (hsR r t bs p).length = 2 ^ (fullS p).length := heelsF_len _ _ _ _ _ _
    have hw0 : 0 ≤ (lsR b r t bs p).getD 0 0 := leastF_nn hn hhs (full_asc p) (fun k hk => (full_in2 p k hk).1) (fun k hk => heelsF_nn (by rw [hhs] at hk; exact hk)) _ 0 rfl (by rw [hhs]; omega)
    have M0 := Msk.nil hn
    have hH0 : (whF r t bs p [] ([] : List Int).length).1 = setH r t bs p (fullS p) 0 (fullS p).length := by rw [setH_z]; rfl
    have hle7 : (fullS p).length ≤ 2 ^ (fullS p).length := Nat.le_of_lt Nat.lt_two_pow_self
    have hfg := find_gr hpl hn ((lsR b r t bs p).getD 0 0) hw0 (fullS p).length [] 0 (2 ^ (fullS p).length) (by simp) hle7 M0 hH0 (fun k hk => by simp at hk) hw0 (Int.le_refl _)
    rw [List.nil_append] at hfg
    have hff := fold_find hw0 _ ([], -1) _ (.inl (by decide)) hfg fun o ho hw => least_le hpk hn _ [] o 0 (by simp) M0 hH0 ho (worst_nn hw)
    rw [bestR, if_pos hok, foldB, hff, bestS, if_pos ⟨hpl, hn⟩]

end Go.Proofs.Ytpiaeckkjdcifaa
