/- Plain laws of what is taken and put, and of loads. No condition. -/
import Derived.Test.YtpiaeckkjdcifaaPlanX
import Derived.Test.YtpiaeckkjdcifaaOkLoad
namespace Go.Proofs.Ytpiaeckkjdcifaa
open Go
set_option linter.unusedVariables false
set_option linter.unusedSimpArgs false

theorem sumTo_upd (f g : Nat → Int) (k : Nat) (h : ∀ j, j ≠ k → g j = f j) : ∀ n, k < n → sumTo g n = sumTo f n - f k + g k
  | 0, hk => by omega
  | n + 1, hk => by
    by_cases e : k = n
    · subst e
      rw [sumTo, sumTo, sumTo_congr (f := g) (g := f) (fun j hj => h j (by omega))]; omega
    · rw [sumTo, sumTo, sumTo_upd f g k h n (by omega), h n (fun e2 => e e2.symm)]; omega
theorem take_law {b r t : Int} {bs : List BoxD} {p : List Int} {s : Int} (h : 0 < (takeR b r t bs p s).2) :
    planB b r t bs p = true ∧ (0 ≤ s ∧ s < p.length) ∧ p.getD s.toNat 0 ≠ 0 ∧ takeR b r t bs p s = (p.set s.toNat 0, p.getD s.toNat 0) ∧ planB b r t bs (p.set s.toNat 0) = true := by
  unfold takeR at h ⊢
  split at h
  · rename_i hp
    split at h
    · rename_i hc
      rw [if_pos hp, if_pos hc]
      have hok := planB_ok hp
      have hs : ((s.toNat : Nat) : Int) = s := by omega
      refine ⟨hp, ⟨hc.1.1, by omega⟩, hc.2.1, rfl, ?_⟩
      rw [take_ok hok (by omega) hc.2.1, hs, show s.toNat + 1 = (s + 1).toNat by omega]
      exact hc.2.2
    · dsimp only at h; omega
  · dsimp only at h; omega
theorem take_neg {b r t : Int} {bs : List BoxD} {p : List Int} {s : Int} (h : ¬ 0 < (takeR b r t bs p s).2) : (takeR b r t bs p s).2 = -1 ∧ ((takeR b r t bs p s).1 = p ∨ (takeR b r t bs p s).1 = []) := by
  unfold takeR at h ⊢
  split
  · rename_i hp
    rw [if_pos hp] at h
    split
    · rename_i hc
      rw [if_pos hc] at h
      dsimp only at h
      have := (planB_ok hp).box hc.2.1
      omega
    · exact ⟨rfl, .inl rfl⟩
  · exact ⟨rfl, .inr rfl⟩
theorem load_take {b r t : Int} {bs : List BoxD} {p : List Int} {s : Int} (h : 0 < (takeR b r t bs p s).2) :
    loadF b r t bs (takeR b r t bs p s).1 = loadF b r t bs p - wAt bs (takeR b r t bs p s).2 := by
  obtain ⟨h1, h2, h3, h4, h5⟩ := take_law h
  rw [h4]
  dsimp only
  rw [loadF, if_pos h5, loadF, if_pos h1, List.length_set]
  rw [sumTo_upd (fun k => wAt bs (p.getD k 0)) (fun k => wAt bs ((p.set s.toNat 0).getD k 0)) s.toNat (fun j hj => by rw [getD_set, if_neg (fun hh => hj hh.1.symm)]) p.length (by omega)]
  rw [getD_set, if_pos ⟨rfl, by omega⟩, show wAt bs 0 = 0 from by rw [wAt, if_pos rfl]]
  omega
/-- The weights of some boxes, together. -/
def wgo (bs : List BoxD) : List Int → Int → Int
  | [], s => s
  | n :: ns, s => if findF bs n 0 < 0 then -1 else wgo bs ns (s + (bx bs (findF bs n 0).toNat).weight)
def weightF (bs : List BoxD) (ids : List Int) : Int := if boxesB bs = true then wgo bs ids 0 else -1
theorem wgo_step {bs : List BoxD} {a : List Int} {i s : Int} (h0 : 0 ≤ i) (h : i < a.length) : wgo bs (a.drop i.toNat) s = if findF bs (a.getD i.toNat 0) 0 < 0 then -1 else wgo bs (a.drop (i + 1).toNat) (s + (bx bs (findF bs (a.getD i.toNat 0) 0).toNat).weight) := by
  have ha : i.toNat < a.length := by omega
  have e : (i + 1).toNat = i.toNat + 1 := by omega
  rw [List.drop_eq_getElem_cons ha, wgo, e, List.getD_eq_getElem?_getD, List.getElem?_eq_getElem ha]
  rfl
theorem wgo_end {bs : List BoxD} {a : List Int} {i s : Int} (h : ¬ i < a.length) : wgo bs (a.drop i.toNat) s = s := by
  rw [List.drop_eq_nil_of_le (by omega)]; rfl
theorem wgo_app {bs : List BoxD} : ∀ (a c : List Int) (s : Int), (∀ n ∈ a, 0 ≤ findF bs n 0) → wgo bs (a ++ c) s = wgo bs c (wgo bs a s)
  | [], c, s, _ => rfl
  | n :: a, c, s, h => by
    have h1 := h n (by simp)
    rw [List.cons_append, wgo, if_neg (by omega), wgo_app a c _ (fun m hm => h m (by simp [hm])), wgo, if_neg (by omega)]
theorem wgo_ids {b r t : Int} {bs : List BoxD} {p : List Int} (h : PlanOK b r t bs p) : ∀ n : Nat, wgo bs (idsTo p n) 0 = sumTo (fun k => wAt bs (p.getD k 0)) n
  | 0 => rfl
  | n + 1 => by
    have ih := wgo_ids h n
    rw [idsTo, sumTo]
    split
    · rename_i h0
      have hb := h.box h0
      rw [wgo_app _ _ _ (fun m hm => by
        obtain ⟨k, _, e, hne⟩ := idsTo_mem.1 hm
        rw [← e] at hne ⊢
        exact (h.box hne).2), ih, wgo, if_neg (by omega), wgo, wAt, if_neg h0]
    · rename_i h0
      rw [ih, show wAt bs (p.getD n 0) = 0 from by rw [wAt, if_pos (Classical.not_not.1 h0)]]; omega
theorem weight_one {b r t : Int} {bs : List BoxD} {p : List Int} (h : PlanOK b r t bs p) {k : Nat} (h0 : p.getD k 0 ≠ 0) : weightF bs [p.getD k 0] = wAt bs (p.getD k 0) := by
  have hb := h.box h0
  rw [weightF, if_pos h.boxes, wgo, if_neg (by omega), wgo, wAt, if_neg h0]; omega
theorem weight_all {b r t : Int} {bs : List BoxD} {p : List Int} (h : planB b r t bs p = true) : weightF bs (idsR b r t bs p) = loadF b r t bs p := by
  have hok := planB_ok h
  rw [weightF, if_pos hok.boxes, idsR, if_pos h, wgo_ids hok, loadF, if_pos h]
/-- What was taken can be put back. -/
theorem take_back {b r t : Int} {bs : List BoxD} {p : List Int} {s : Int} (h : 0 < (takeR b r t bs p s).2) :
    putR b r t bs (takeR b r t bs p s).1 s (takeR b r t bs p s).2 = (p, true) ∧ s ∈ nextR b r t bs (takeR b r t bs p s).1 := by
  obtain ⟨h1, h2, h3, h4, h5⟩ := take_law h
  have hok := planB_ok h1
  have hs : ((s.toNat : Nat) : Int) = s := by omega
  have e : (p.set s.toNat 0).getD s.toNat 0 = 0 := by rw [getD_set, if_pos ⟨rfl, by omega⟩]
  have hback : (p.set s.toNat 0).set s.toNat (p.getD s.toNat 0) = p := by
    rw [List.set_set]
    apply List.ext_getElem
    · simp
    · intro j h6 h7
      rw [List.getElem_set]
      split
      · rename_i e2; subst e2; exact getD_in h7
      · rfl
  rw [h4]
  dsimp only
  refine ⟨?_, ?_⟩
  · rw [putR, if_pos h5, if_pos ⟨⟨h2.1, by rw [List.length_set]; omega⟩, e, h3⟩, hback, if_pos h1]
  · rw [nextR, if_pos h5, List.length_set]
    refine selTo_mem.2 ⟨s.toNat, by omega, hs, ?_⟩
    rw [nextB, e, decide_eq_true rfl, Bool.true_and, Bool.or_eq_true, decide_eq_true_eq, decide_eq_true_eq, hs]
    have ht := hv_t hok.ship
    have hm : 0 ≤ s % t := Int.emod_nonneg _ (by omega)
    by_cases h6 : 0 < s % t
    · right
      have h7 := hok.firm s.toNat (by omega) h3 (by rw [hs]; exact h6)
      have hs0 : s ≠ 0 := by intro hh; subst hh; simp at h6
      rw [getD_set, if_neg (by omega)]; exact h7
    · left; omega
/-- What was put can be taken. -/
theorem put_law {b r t : Int} {bs : List BoxD} {p : List Int} {s n : Int} (h : (putR b r t bs p s n).2 = true) :
    planB b r t bs p = true ∧ (0 ≤ s ∧ s < p.length) ∧ p.getD s.toNat 0 = 0 ∧ n ≠ 0 ∧ (putR b r t bs p s n).1 = p.set s.toNat n ∧ planB b r t bs (p.set s.toNat n) = true := by
  unfold putR at h ⊢
  split at h
  · rename_i hp
    split at h
    · rename_i hc
      split at h
      · rename_i hq
        rw [if_pos hp, if_pos hc, if_pos hq]
        exact ⟨hp, ⟨hc.1.1, by omega⟩, hc.2.1, hc.2.2, rfl, hq⟩
      · cases h
    · cases h
  · cases h
theorem put_not {b r t : Int} {bs : List BoxD} {p : List Int} {s n : Int} (h : ¬ (putR b r t bs p s n).2 = true) : (putR b r t bs p s n).1 = p ∨ (putR b r t bs p s n).1 = [] := by
  unfold putR at h ⊢
  split
  · split
    · split
      · rename_i hp hc hq
        rw [if_pos hp, if_pos hc, if_pos hq] at h
        exact absurd rfl h
      · exact .inl rfl
    · exact .inl rfl
  · exact .inr rfl
theorem put_take {b r t : Int} {bs : List BoxD} {p : List Int} {s n : Int} (h : (putR b r t bs p s n).2 = true) :
    takeR b r t bs (putR b r t bs p s n).1 s = (p, n) ∧ planB b r t bs (putR b r t bs p s n).1 = true ∧ findP b r t bs (putR b r t bs p s n).1 n = s := by
  obtain ⟨h1, h2, h3, h4, h5, h6⟩ := put_law h
  have hok := planB_ok h1
  have hok2 := planB_ok h6
  have hs : ((s.toNat : Nat) : Int) = s := by omega
  have e : (p.set s.toNat n).getD s.toNat 0 = n := by rw [getD_set, if_pos ⟨rfl, by omega⟩]
  have hback : (p.set s.toNat n).set s.toNat 0 = p := by
    rw [List.set_set]
    apply List.ext_getElem
    · simp
    · intro j h7 h8
      rw [List.getElem_set]
      split
      · rename_i e2; subst e2; rw [← getD_in h8]; exact h3.symm
      · rfl
  rw [h5]
  refine ⟨?_, h6, ?_⟩
  · have hn := (take_ok hok2 (s := s.toNat) (by rw [List.length_set]; omega) (by rw [e]; exact h4)).1 (by rw [hback]; exact h1)
    rw [hs, show s.toNat + 1 = (s + 1).toNat by omega] at hn
    rw [takeR, if_pos h6, if_pos ⟨⟨h2.1, by rw [List.length_set]; omega⟩, by rw [e]; exact h4, hn⟩, hback, e]
  · have := hok2.at (s := s.toNat) (by rw [List.length_set]; omega) (by rw [e]; exact h4)
    rw [e, hs] at this; exact this

end Go.Proofs.Ytpiaeckkjdcifaa
namespace Go.Proofs.Ytpiaeckkjdcifaa
open Go
set_option linter.unusedVariables false
set_option linter.unusedSimpArgs false

/-- The plan that holds the boxes of the first k slots of an order. -/
def partP (p o : List Int) (k : Nat) : List Int := (List.range p.length).map fun (j : Nat) => if (j : Int) ∈ o.take k then p.getD j 0 else 0
theorem partP_len (p o : List Int) (k : Nat) : (partP p o k).length = p.length := by simp [partP]
theorem partP_get {p o : List Int} {k j : Nat} (h : j < p.length) : (partP p o k).getD j 0 = if (j : Int) ∈ o.take k then p.getD j 0 else 0 := by
  simp [partP, List.getD_eq_getElem?_getD, h]
theorem partP_out {p o : List Int} {k j : Nat} (h : p.length ≤ j) : (partP p o k).getD j 0 = 0 := getD_out (by rw [partP_len]; exact h)
theorem partP_sub {p o : List Int} {k j : Nat} (h : (partP p o k).getD j 0 ≠ 0) : (j < p.length ∧ (j : Int) ∈ o.take k) ∧ (partP p o k).getD j 0 = p.getD j 0 := by
  by_cases hj : j < p.length
  · rw [partP_get hj] at h ⊢
    by_cases e : (j : Int) ∈ o.take k
    · rw [if_pos e]; exact ⟨⟨hj, e⟩, rfl⟩
    · rw [if_neg e] at h; exact absurd rfl h
  · exact absurd (partP_out (by omega)) h
theorem ord_get {t : Int} {p o : List Int} {k : Nat} (h : ordB t p o k = true) : ((0 ≤ o.getD k 0 ∧ o.getD k 0 < p.length) ∧ p.getD (o.getD k 0).toNat 0 ≠ 0) ∧ o.getD k 0 ∉ o.take k ∧ (0 < o.getD k 0 % t → o.getD k 0 - 1 ∈ o.take k) := by
  simp only [ordB, Bool.and_eq_true, decide_eq_true_eq, Bool.not_eq_true', decide_eq_false_iff_not, Bool.and_eq_false_iff, Bool.not_eq_false', Int.not_lt] at h
  refine ⟨⟨⟨h.1.1.1.1, by omega⟩, h.1.1.2⟩, h.1.2, fun hm => ?_⟩
  rcases h.2 with h2 | h2
  · omega
  · exact h2
theorem take_succ_mem {o : List Int} {k : Nat} (hk : k < o.length) {x : Int} : x ∈ o.take (k + 1) ↔ x ∈ o.take k ∨ x = o.getD k 0 := by
  rw [List.take_add_one, List.getElem?_eq_getElem hk, Option.toList_some, List.mem_append, List.mem_singleton, List.getD_eq_getElem?_getD, List.getElem?_eq_getElem hk]
  rfl
theorem part_step {p o : List Int} {t : Int} {k : Nat} (hk : k < o.length) (h : ordB t p o k = true) : partP p o (k + 1) = (partP p o k).set (o.getD k 0).toNat (p.getD (o.getD k 0).toNat 0) ∧ (partP p o k).getD (o.getD k 0).toNat 0 = 0 := by
  obtain ⟨⟨h1, h2⟩, h3, h4⟩ := ord_get h
  have hg : (partP p o k).getD (o.getD k 0).toNat 0 = 0 := by
    rw [partP_get (by omega), if_neg (by rw [Int.toNat_of_nonneg h1.1]; exact h3)]
  refine ⟨?_, hg⟩
  apply List.ext_getElem
  · rw [List.length_set, partP_len, partP_len]
  · intro j hj1 hj2
    rw [partP_len] at hj1
    have e : ∀ (a : List Int) (h : j < a.length), a[j] = a.getD j 0 := fun a h => by rw [List.getD_eq_getElem?_getD, List.getElem?_eq_getElem h]; rfl
    rw [e _ (by rw [partP_len]; exact hj1), e _ hj2, getD_set, partP_get hj1]
    by_cases ej : (o.getD k 0).toNat = j
    · rw [if_pos ((take_succ_mem hk).2 (.inr (by omega))), if_pos ⟨ej, by rw [partP_len]; omega⟩, ej]
    · by_cases em : (j : Int) ∈ o.take k
      · rw [if_pos ((take_succ_mem hk).2 (.inl em)), if_neg (fun hh => ej hh.1), partP_get hj1, if_pos em]
      · have hn : ¬ (j : Int) ∈ o.take (k + 1) := fun hh => by
          rcases (take_succ_mem hk).1 hh with h5 | h5
          · exact em h5
          · omega
        rw [if_neg hn, if_neg (fun hh => ej hh.1), partP_get hj1, if_neg em]
theorem part_ok {b r t : Int} {bs : List BoxD} {p o : List Int} (h : PlanOK b r t bs p) (ho : ∀ k, k < o.length → ordB t p o k = true) : ∀ k, k ≤ o.length → PlanOK b r t bs (partP p o k) := by
  intro k hk
  refine { ship := h.ship, boxes := h.boxes, len := by rw [partP_len]; exact h.len, inb := fun j => ?_, uniq := fun i j hij hj hz => ?_, firm := fun j hj hz hm => ?_ }
  · by_cases hz : (partP p o k).getD j 0 = 0
    · exact .inl hz
    · rw [(partP_sub hz).2]; exact h.inb j
  · obtain ⟨⟨h1, h2⟩, h3⟩ := partP_sub hz
    by_cases hz2 : (partP p o k).getD i 0 = 0
    · rw [hz2]; exact fun e => hz e.symm
    · rw [h3, (partP_sub hz2).2]
      rw [h3] at hz
      exact h.uniq i j hij h1 hz
  · obtain ⟨⟨h1, h2⟩, h3⟩ := partP_sub hz
    rw [h3] at hz
    have hf := h.firm j h1 hz hm
    obtain ⟨q, hq, eq⟩ := List.mem_take_iff_getElem.1 h2
    have hqk : q < k ∧ q < o.length := by omega
    have hoq := ord_get (ho q hqk.2)
    have eq2 : o.getD q 0 = (j : Int) := by rw [List.getD_eq_getElem?_getD, List.getElem?_eq_getElem hqk.2]; exact eq
    rw [eq2] at hoq
    have hmem := hoq.2.2 hm
    have hj0 : j ≠ 0 := by
      intro e; subst e; simp at hm
    rw [partP_get (by omega), if_pos]
    · exact hf
    · have : ((j - 1 : Nat) : Int) = (j : Int) - 1 := by omega
      rw [this]
      have htk : o.take q = (o.take k).take q := by rw [List.take_take, Nat.min_eq_left (by omega)]
      rw [htk] at hmem
      exact List.mem_of_mem_take hmem
theorem part_put {b r t : Int} {bs : List BoxD} {p o : List Int} (h : PlanOK b r t bs p) (ho : ∀ k, k < o.length → ordB t p o k = true) {k : Nat} (hk : k < o.length) :
    putR b r t bs (partP p o k) (o.getD k 0) (p.getD (o.getD k 0).toNat 0) = (partP p o (k + 1), true) := by
  have hs := part_step hk (ho k hk)
  obtain ⟨⟨h1, h2⟩, h3, h4⟩ := ord_get (ho k hk)
  have hb := planB_of (part_ok h ho k (by omega))
  have hb2 := planB_of (part_ok h ho (k + 1) (by omega))
  rw [putR, if_pos hb, if_pos ⟨⟨h1.1, by rw [partP_len]; omega⟩, hs.2, h2⟩, if_pos (by rw [← hs.1]; exact hb2), hs.1]
theorem part_take {b r t : Int} {bs : List BoxD} {p o : List Int} (h : PlanOK b r t bs p) (ho : ∀ k, k < o.length → ordB t p o k = true) {k : Nat} (hk : k < o.length) :
    takeR b r t bs (partP p o (k + 1)) (o.getD k 0) = (partP p o k, p.getD (o.getD k 0).toNat 0) := by
  have hp := part_put h ho hk
  have := put_take (b := b) (r := r) (t := t) (bs := bs) (p := partP p o k) (s := o.getD k 0) (n := p.getD (o.getD k 0).toNat 0) (by rw [hp])
  rw [hp] at this
  exact this.1
theorem part_zero (p o : List Int) : partP p o 0 = List.replicate p.length 0 := by
  apply List.ext_getElem
  · simp [partP]
  · intro j h1 h2
    simp [partP]

end Go.Proofs.Ytpiaeckkjdcifaa
