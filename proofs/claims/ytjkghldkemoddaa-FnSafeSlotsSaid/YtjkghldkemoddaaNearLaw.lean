/- Plain laws of boxes that are too near. No condition. -/
import Derived.Test.YtjkghldkemoddaaNear
import Derived.Test.YtjkghldkemoddaaSafe
import Derived.Test.YtjkghldkemoddaaPlanX
import Derived.Test.YtjkghldkemoddaaFind
namespace Go.Proofs.Ytjkghldkemoddaa
open Go
set_option linter.unusedVariables false
set_option linter.unusedSimpArgs false

theorem next_mem {P : Nat → Bool} {n k : Nat} : ((k : Int) ∈ selTo P n) ↔ (k < n ∧ P k = true) := by
  rw [selTo_mem]
  constructor
  · rintro ⟨j, h1, h2, h3⟩
    have : j = k := by omega
    subst this; exact ⟨h1, h3⟩
  · rintro ⟨h1, h2⟩; exact ⟨k, h1, rfl, h2⟩
theorem bx_in {bs : List BoxD} {i : Nat} (h : i < bs.length) : bx bs i = bs[i] := by
  rw [bx, List.getD_eq_getElem?_getD, List.getElem?_eq_getElem h]; rfl
theorem bx_found {bs : List BoxD} {i : Nat} (h : i < bs.length) : 0 ≤ findF bs (bx bs i).id 0 := by
  rw [findF_mem bs _ 0 (by omega), bx_in h]
  exact List.mem_map_of_mem (List.getElem_mem h)
theorem put_next {b r t : Int} {bs : List BoxD} {p : List Int} (h : planB b r t bs p = true) {i : Nat} (hi : i < bs.length) (hm : (bx bs i).id ∉ p) {k : Int} (h0 : 0 ≤ k) (h1 : k < p.length) :
    (putR b r t bs p k (bx bs i).id).2 = decide (k ∈ nextR b r t bs p) := by
  have hok := planB_ok h
  have hbb := boxB_le ((boxesB_get hok.boxes).2 i hi)
  have hf := bx_found hi
  have hs : k.toNat < p.length := by omega
  have hk : ((k.toNat : Nat) : Int) = k := by omega
  have hmem : k ∈ nextR b r t bs p ↔ nextB t p k.toNat = true := by
    rw [nextR, if_pos h, ← hk, next_mem]
    rw [hk]
    exact ⟨fun hh => hh.2, fun hh => ⟨hs, hh⟩⟩
  by_cases hz : p.getD k.toNat 0 = 0
  · have hput := put_ok hok hs hz (n := (bx bs i).id) (by omega)
    have hnx : nextB t p k.toNat = true ↔ (0 < k % t → p.getD (k.toNat - 1) 0 ≠ 0) := by
      have ht := hv_t hok.ship
      have hmod : 0 ≤ k % t := Int.emod_nonneg _ (by omega)
      rw [nextB, decide_eq_true hz, Bool.true_and, Bool.or_eq_true, decide_eq_true_eq, decide_eq_true_eq, hk]
      constructor
      · rintro (h2 | h2) h3
        · omega
        · exact h2
      · intro h2
        by_cases h3 : 0 < k % t
        · exact .inr (h2 h3)
        · left; omega
    rw [putR, if_pos h, if_pos ⟨⟨h0, by omega⟩, hz, by omega⟩]
    by_cases hp : planB b r t bs (p.set k.toNat (bx bs i).id) = true
    · rw [if_pos hp]
      symm; rw [decide_eq_true_eq, hmem, hnx]
      have := (hput.1 hp).2.2
      rw [hk] at this; exact this
    · rw [if_neg hp]
      symm; rw [decide_eq_false_iff_not, hmem, hnx]
      intro h2
      apply hp
      refine hput.2 ⟨hf, hm, ?_⟩
      rw [hk]; exact h2
  · rw [putR, if_pos h, if_neg (fun hh => hz hh.2.1)]
    symm; rw [decide_eq_false_iff_not, hmem, nextB, decide_eq_false hz, Bool.false_and]; simp
theorem take_law {b r t : Int} {bs : List BoxD} {p : List Int} {s : Int} (h : 0 < (takeR b r t bs p s).2) :
    planB b r t bs p = true ∧ (0 ≤ s ∧ s < p.length) ∧ p.getD s.toNat 0 ≠ 0 ∧ takeR b r t bs p s = (p.set s.toNat 0, p.getD s.toNat 0) ∧ planB b r t bs (p.set s.toNat 0) = true := by
  unfold takeR at h ⊢
  split at h
  · rename_i hp
    split at h
    · rename_i hc
      rw [if_pos hp, if_pos hc]
      have hok := planB_ok hp
      have hs : ((s.toNat : Nat) : Int) = s := by omega
      refine ⟨hp, ⟨hc.1.1, by omega⟩, hc.2.1, rfl, ?_⟩
      rw [take_ok hok (by omega) hc.2.1, hs, show s.toNat + 1 = (s + 1).toNat by omega]
      exact hc.2.2
    · dsimp only at h; omega
  · dsimp only at h; omega
theorem take_neg {b r t : Int} {bs : List BoxD} {p : List Int} {s : Int} (h : ¬ 0 < (takeR b r t bs p s).2) : (takeR b r t bs p s).2 = -1 ∧ ((takeR b r t bs p s).1 = p ∨ (takeR b r t bs p s).1 = []) := by
  unfold takeR at h ⊢
  split
  · rename_i hp
    rw [if_pos hp] at h
    split
    · rename_i hc
      rw [if_pos hc] at h
      dsimp only at h
      have := (planB_ok hp).box hc.2.1
      omega
    · exact ⟨rfl, .inl rfl⟩
  · exact ⟨rfl, .inr rfl⟩
theorem rowP_mem {r t : Int} {bs : List BoxD} {p : List Int} {a : Nat} {x : PairD} : ∀ n : Nat, x ∈ rowP r t bs p a n ↔ ∃ q : Nat, q < n ∧ x = ⟨(a : Int), (q : Int)⟩ ∧ nearB r t bs p a q = true
  | 0 => by simp [rowP]
  | n + 1 => by
    have ih := rowP_mem (r := r) (t := t) (bs := bs) (p := p) (a := a) (x := x) n
    rw [rowP]
    split
    · rename_i h
      rw [List.mem_append, List.mem_singleton, ih]
      constructor
      · rintro (⟨q, h1, h2, h3⟩ | rfl)
        · exact ⟨q, by omega, h2, h3⟩
        · exact ⟨n, by omega, rfl, h⟩
      · rintro ⟨q, h1, h2, h3⟩
        by_cases e : q = n
        · exact .inr (by rw [h2, e])
        · exact .inl ⟨q, by omega, h2, h3⟩
    · rename_i h
      rw [ih]
      constructor
      · rintro ⟨q, h1, h2, h3⟩; exact ⟨q, by omega, h2, h3⟩
      · rintro ⟨q, h1, h2, h3⟩
        refine ⟨q, ?_, h2, h3⟩
        have : q ≠ n := fun e => h (e ▸ h3)
        omega
theorem catP_mem {r t : Int} {bs : List BoxD} {p : List Int} {x : PairD} : ∀ n : Nat, x ∈ catP r t bs p n ↔ ∃ a q : Nat, (a < n ∧ q < p.length) ∧ x = ⟨(a : Int), (q : Int)⟩ ∧ nearB r t bs p a q = true
  | 0 => by simp [catP]
  | n + 1 => by
    have ih := catP_mem (r := r) (t := t) (bs := bs) (p := p) (x := x) n
    rw [catP, List.mem_append, ih, rowP_mem]
    constructor
    · rintro (⟨a, q, ⟨h1, h2⟩, h3⟩ | ⟨q, h1, h3⟩)
      · exact ⟨a, q, ⟨by omega, h2⟩, h3⟩
      · exact ⟨n, q, ⟨by omega, h1⟩, h3⟩
    · rintro ⟨a, q, ⟨h1, h2⟩, h3⟩
      by_cases e : a = n
      · subst e; exact .inr ⟨q, h2, h3⟩
      · exact .inl ⟨a, q, ⟨by omega, h2⟩, h3⟩
theorem nearB_iff {r t : Int} {bs : List BoxD} {p : List Int} {a q : Nat} : nearB r t bs p a q = true ↔ (a < q ∧ p.getD a 0 ≠ 0) ∧ p.getD q 0 ≠ 0 ∧ apD r t a q < need (cAt bs (p.getD a 0)) (cAt bs (p.getD q 0)) := by
  simp only [nearB, Bool.and_eq_true, decide_eq_true_eq]
theorem nearR_mem {b r t : Int} {bs : List BoxD} {p : List Int} (h : planB b r t bs p = true) {x : PairD} : x ∈ nearR b r t bs p ↔ ∃ a q : Nat, (a < p.length ∧ q < p.length) ∧ x = ⟨(a : Int), (q : Int)⟩ ∧ nearB r t bs p a q = true := by
  rw [nearR, if_pos h, catP_mem]
theorem nearR_no {b r t : Int} {bs : List BoxD} {p : List Int} (h : planB b r t bs p = false) : nearR b r t bs p = [] := by rw [nearR, h]; rfl
theorem nearR_len {b r t : Int} {bs : List BoxD} {p : List Int} : (nearR b r t bs p).length ≤ 1296 := by
  unfold nearR; split
  · rename_i h
    have hle := (planB_ok h).le
    have h1 := catP_len r t bs p p.length
    have h2 : p.length * p.length ≤ 36 * 36 := Nat.mul_le_mul (by omega) (by omega)
    omega
  · simp
/-- Fewer boxes: the pairs were too near before, and none has the slot. -/
theorem near_less {b r t : Int} {bs : List BoxD} {p : List Int} {s : Int} (h : 0 < (takeR b r t bs p s).2) {x : PairD} (hx : x ∈ nearR b r t bs (takeR b r t bs p s).1) : x ∈ nearR b r t bs p ∧ x.a ≠ s ∧ x.b ≠ s := by
  obtain ⟨hp, hs, h0, he, hp2⟩ := take_law h
  rw [he] at hx
  obtain ⟨a, q, ⟨h1, h2⟩, rfl, h3⟩ := (nearR_mem hp2).1 hx
  rw [List.length_set] at h1 h2
  obtain ⟨⟨h4, h5⟩, h6, h7⟩ := nearB_iff.1 h3
  have ha : a ≠ s.toNat := fun e => by rw [e, getD_set, if_pos ⟨rfl, by omega⟩] at h5; exact h5 rfl
  have hq : q ≠ s.toNat := fun e => by rw [e, getD_set, if_pos ⟨rfl, by omega⟩] at h6; exact h6 rfl
  rw [getD_set, if_neg (fun hh => ha hh.1.symm)] at h5 h7
  rw [getD_set, if_neg (fun hh => hq hh.1.symm)] at h6 h7
  exact ⟨(nearR_mem hp).2 ⟨a, q, ⟨h1, h2⟩, rfl, nearB_iff.2 ⟨⟨h4, h5⟩, h6, h7⟩⟩, by show (a : Int) ≠ s; omega, by show (q : Int) ≠ s; omega⟩
/-- The same boxes, none of them dangerous. -/
def mild (bs : List BoxD) : List BoxD := bs.map fun x => ⟨x.id, x.weight, 0, x.port, x.cold⟩
theorem mild_step {bs : List BoxD} {i : Int} (h0 : 0 ≤ i) (h : i < bs.length) : mild (bs.take (i + 1).toNat) = mild (bs.take i.toNat) ++ [⟨(bx bs i.toNat).id, (bx bs i.toNat).weight, 0, (bx bs i.toNat).port, (bx bs i.toNat).cold⟩] := by
  have ha : i.toNat < bs.length := by omega
  have e : (i + 1).toNat = i.toNat + 1 := by omega
  have e2 : bx bs i.toNat = bs[i.toNat] := by rw [bx, List.getD_eq_getElem?_getD, List.getElem?_eq_getElem ha]; rfl
  rw [e, List.take_add_one, List.getElem?_eq_getElem ha, Option.toList_some, mild, List.map_append, e2]; rfl
theorem mild_len (bs : List BoxD) : (mild bs).length = bs.length := by simp [mild]
theorem mild_cls (bs : List BoxD) (k : Nat) : (bx (mild bs) k).cls = 0 := by
  rw [bx, List.getD_eq_getElem?_getD]
  by_cases h : k < (mild bs).length
  · rw [List.getElem?_eq_getElem h]; simp [mild]
  · rw [List.getElem?_eq_none (by omega)]; rfl
theorem near_mild (b r t : Int) (bs : List BoxD) (p : List Int) : nearR b r t (mild bs) p = [] := by
  cases hp : planB b r t (mild bs) p with
  | false => exact nearR_no hp
  | true =>
    rw [List.eq_nil_iff_forall_not_mem]
    intro x hx
    obtain ⟨a, q, _, _, h3⟩ := (nearR_mem hp).1 hx
    have h4 := (nearB_iff.1 h3).2.2
    have e : ∀ n, cAt (mild bs) n = 0 := fun n => mild_cls bs _
    rw [e, e, need_z1 (by omega)] at h4
    have := (apD_box r t a q).1
    omega
theorem apD_sym (r t a c : Int) : apD r t a c = apD r t c a := by
  unfold apD
  generalize a / t / r = u
  generalize c / t / r = v
  generalize a / t = x
  generalize c / t = y
  repeat' split
  all_goals omega
theorem need_sym (a c : Int) : need a c = need c a := by
  unfold need
  repeat' split
  all_goals omega
/-- How many pairs. -/
def one01 (f : Bool) : Int := if f = true then 1 else 0
theorem rowP_cnt (r t : Int) (bs : List BoxD) (p : List Int) (a : Nat) : ∀ n, ((rowP r t bs p a n).length : Int) = sumTo (fun q => one01 (nearB r t bs p a q)) n
  | 0 => rfl
  | n + 1 => by
    have ih := rowP_cnt r t bs p a n
    rw [rowP, sumTo, one01]
    split
    · rw [List.length_append]; simp; omega
    · omega
theorem catP_cnt (r t : Int) (bs : List BoxD) (p : List Int) : ∀ n, ((catP r t bs p n).length : Int) = sumTo (fun a => sumTo (fun q => one01 (nearB r t bs p a q)) p.length) n
  | 0 => rfl
  | n + 1 => by
    have ih := catP_cnt r t bs p n
    rw [catP, sumTo, List.length_append, ← rowP_cnt]; omega
theorem sum_le {f g : Nat → Int} : ∀ {n : Nat}, (∀ k, k < n → f k ≤ g k) → sumTo f n ≤ sumTo g n
  | 0, _ => Int.le_refl _
  | n + 1, h => by
    have h1 := sum_le (f := f) (g := g) (n := n) (fun k hk => h k (by omega))
    have h2 := h n (by omega)
    rw [sumTo, sumTo]; omega
theorem sum_eq {f g : Nat → Int} : ∀ {n : Nat}, (∀ k, k < n → f k ≤ g k) → sumTo f n = sumTo g n → ∀ k, k < n → f k = g k
  | 0, _, _, k, hk => by omega
  | n + 1, h, he, k, hk => by
    have h1 := sum_le (f := f) (g := g) (n := n) (fun k hk => h k (by omega))
    have h2 := h n (by omega)
    rw [sumTo, sumTo] at he
    by_cases e : k = n
    · subst e; omega
    · exact sum_eq (f := f) (g := g) (n := n) (fun k hk => h k (by omega)) (by omega) k (by omega)
theorem one01_le {x y : Bool} (h : x = true → y = true) : one01 x ≤ one01 y := by
  cases x <;> cases y <;> simp_all [one01]
theorem one01_eq {x y : Bool} (h : one01 x = one01 y) : x = y := by
  cases x <;> cases y <;> simp_all [one01]
/-- As many pairs as before: none is new. -/
theorem cat_count {r t : Int} {bs : List BoxD} {p x : List Int} (hl : x.length = p.length) (h : ∀ a q, nearB r t bs p a q = true → nearB r t bs x a q = true) :
    ((catP r t bs x x.length).length : Int) = (catP r t bs p p.length).length ↔ ∀ a q : Nat, a < p.length → q < p.length → nearB r t bs x a q = true → nearB r t bs p a q = true := by
  rw [catP_cnt, catP_cnt, hl]
  have hle : ∀ a q, one01 (nearB r t bs p a q) ≤ one01 (nearB r t bs x a q) := fun a q => one01_le (h a q)
  constructor
  · intro he a q ha hq hn
    have h1 := sum_eq (f := fun a => sumTo (fun q => one01 (nearB r t bs p a q)) p.length) (g := fun a => sumTo (fun q => one01 (nearB r t bs x a q)) p.length) (n := p.length) (fun k _ => sum_le (fun j _ => hle k j)) he.symm a ha
    have h2 := sum_eq (f := fun q => one01 (nearB r t bs p a q)) (g := fun q => one01 (nearB r t bs x a q)) (n := p.length) (fun j _ => hle a j) h1 q hq
    rw [one01_eq h2]; exact hn
  · intro he
    refine sumTo_congr (fun a ha => sumTo_congr (fun q hq => ?_))
    congr 1
    rw [Bool.eq_iff_iff]
    exact ⟨he a q ha hq, h a q⟩
/-- One box more. -/
def moreB (bs : List BoxD) (c : Int) : List BoxD := bs ++ [⟨777, 1, c, 0, false⟩]
theorem more_len (bs : List BoxD) (c : Int) : (moreB bs c).length = bs.length + 1 := by simp [moreB]
theorem bx_more {bs : List BoxD} {c : Int} {k : Nat} (h : k < bs.length) : bx (moreB bs c) k = bx bs k := by
  rw [bx, bx, moreB, List.getD_eq_getElem?_getD, List.getD_eq_getElem?_getD, List.getElem?_append_left h]
theorem bx_last (bs : List BoxD) (c : Int) : bx (moreB bs c) bs.length = ⟨777, 1, c, 0, false⟩ := by
  rw [bx, moreB, List.getD_eq_getElem?_getD, List.getElem?_append_right (Nat.le_refl _), Nat.sub_self]; rfl
theorem find_more {bs : List BoxD} {c n : Int} (h : 0 ≤ findF bs n 0) : findF (moreB bs c) n 0 = findF bs n 0 := by
  rw [moreB, findF_app _ _ _ _ (by omega), if_pos h]
theorem cAt_more {bs : List BoxD} {c n : Int} (h : 0 ≤ findF bs n 0) : cAt (moreB bs c) n = cAt bs n := by
  have h1 := findF_lt h
  unfold cAt
  rw [find_more h, bx_more (by omega)]
theorem boxesB_new {bs : List BoxD} (h : boxesB bs = true) {k j : Nat} (hk : k < bs.length) (hj : j < k) : (bx bs j).id ≠ (bx bs k).id := by
  intro e
  simp only [boxesB, Bool.and_eq_true, List.all_eq_true] at h
  have h1 := h.1 k (List.mem_range.2 hk)
  simp only [bxOK, Bool.and_eq_true, decide_eq_true_eq] at h1
  have e2 : bx (bs.take k) j = bx bs j := by rw [bx, bx, List.getD_eq_getElem?_getD, List.getD_eq_getElem?_getD, List.getElem?_take, if_pos hj]
  have h2 := bx_found (bs := bs.take k) (i := j) (by rw [List.length_take]; omega)
  rw [e2, e] at h2
  omega
theorem more_new {b r t c : Int} {bs : List BoxD} {p : List Int} (h : planB b r t (moreB bs c) p = true) (h0 : planB b r t bs p = true) : findF bs 777 0 < 0 ∧ findF (moreB bs c) 777 0 = bs.length ∧ (777 : Int) ∉ p := by
  have hok := planB_ok h
  have hb := hok.boxes
  have hneg : findF bs 777 0 < 0 := by
    rcases Int.lt_or_le (findF bs 777 0) 0 with h1 | h1
    · exact h1
    · exfalso
      have h2 := findF_lt h1
      have h3 := findF_id bs 777 0 (by omega) h1
      have h4 := boxesB_new hb (k := bs.length) (by rw [more_len]; omega) (j := (findF bs 777 0 - 0).toNat) (by omega)
      rw [bx_last, bx_more (by omega), h3] at h4
      exact h4 rfl
  refine ⟨hneg, ?_, fun hm => ?_⟩
  · rw [moreB, findF_app _ _ _ _ (by omega), if_neg (by omega)]
    simp [findF]
  · obtain ⟨k, hk, e⟩ := mem_getD hm
    have := ((planB_ok h0).inb k).resolve_left (by rw [e]; decide)
    rw [e] at this; omega
theorem cAt_new {b r t c : Int} {bs : List BoxD} {p : List Int} (h : planB b r t (moreB bs c) p = true) (h0 : planB b r t bs p = true) : cAt (moreB bs c) 777 = c := by
  have h1 := (more_new h h0).2.1
  unfold cAt
  rw [h1, Int.toNat_natCast, bx_last]
theorem put_more {b r t c : Int} {bs : List BoxD} {p : List Int} (h : planB b r t (moreB bs c) p = true) (h0 : planB b r t bs p = true) {s : Int} (hs : s ∈ nextR b r t (moreB bs c) p) : putR b r t (moreB bs c) p s 777 = (p.set s.toNat 777, true) ∧ (0 ≤ s ∧ s < p.length) ∧ p.getD s.toNat 0 = 0 ∧ planB b r t (moreB bs c) (p.set s.toNat 777) = true := by
  have hnew := more_new h h0
  have hsr : (0 ≤ s ∧ s < p.length) ∧ p.getD s.toNat 0 = 0 := by
    rw [nextR, if_pos h] at hs
    obtain ⟨k, hk, rfl, hn⟩ := selTo_mem.1 hs
    simp only [nextB, Bool.and_eq_true, decide_eq_true_eq] at hn
    exact ⟨by omega, by rw [Int.toNat_natCast]; exact hn.1⟩
  have hput := put_next h (i := bs.length) (by rw [more_len]; omega) (by rw [bx_last]; exact hnew.2.2) hsr.1.1 hsr.1.2
  rw [bx_last, decide_eq_true hs] at hput
  have hput2 : (putR b r t (moreB bs c) p s 777).2 = true := hput
  unfold putR at hput2 ⊢
  rw [if_pos h] at hput2 ⊢
  split at hput2
  · rename_i hc
    rw [if_pos hc]
    split at hput2
    · rename_i hp
      rw [if_pos hp]
      exact ⟨rfl, hsr.1, hsr.2, hp⟩
    · cases hput2
  · cases hput2
/-- A safe slot: no more pairs than before. -/
theorem safe_count {b r t c : Int} {bs : List BoxD} {p : List Int} (h : planB b r t (moreB bs c) p = true) (h0 : planB b r t bs p = true) (hc : 0 ≤ c ∧ c ≤ 3) {s : Int} (hs : s ∈ nextR b r t (moreB bs c) p) :
    decide (((nearR b r t (moreB bs c) (p.set s.toNat 777)).length : Int) = (nearR b r t (moreB bs c) p).length) = decide (s ∈ safeR b r t bs p c) := by
  obtain ⟨_, hsr, hz, hp2⟩ := put_more h h0 hs
  have hnew := more_new h h0
  have hok := planB_ok h0
  have hc777 := cAt_new h h0
  have hsn : ((s.toNat : Nat) : Int) = s := by omega
  rw [nearR, if_pos hp2, nearR, if_pos h]
  refine decide_eq_decide.2 ?_
  have hset : ∀ j, (p.set s.toNat 777).getD j 0 = if j = s.toNat then 777 else p.getD j 0 := fun j => by
    rw [getD_set]
    by_cases e : j = s.toNat
    · rw [if_pos ⟨e.symm, by omega⟩, if_pos e]
    · rw [if_neg (fun hh => e hh.1.symm), if_neg e]
  have hkeep : ∀ a q, nearB r t (moreB bs c) p a q = true → nearB r t (moreB bs c) (p.set s.toNat 777) a q = true := fun a q hn => by
    obtain ⟨⟨h4, h5⟩, h6, h7⟩ := nearB_iff.1 hn
    have ha : a ≠ s.toNat := fun e => h5 (e ▸ hz)
    have hq : q ≠ s.toNat := fun e => h6 (e ▸ hz)
    exact nearB_iff.2 ⟨⟨h4, by rw [hset, if_neg ha]; exact h5⟩, by rw [hset, if_neg hq]; exact h6, by rw [hset, hset, if_neg ha, if_neg hq]; exact h7⟩
  rw [cat_count List.length_set hkeep]
  have hcm : ∀ j, p.getD j 0 ≠ 0 → cAt (moreB bs c) (p.getD j 0) = cAt bs (p.getD j 0) := fun j hj => cAt_more ((hok.inb j).resolve_left hj)
  have hmem : s ∈ safeR b r t bs p c ↔ ∀ j, j < p.length → nearTo r t bs p c s j = false := by
    have hn : s ∈ nextR b r t bs p := by
      rw [nextR, if_pos h] at hs
      rw [nextR, if_pos h0]; exact hs
    rw [safeR, if_pos hc, List.mem_filter]
    simp only [safeS, Bool.not_eq_true', List.any_eq_false, List.mem_range, Bool.not_eq_true]
    exact ⟨fun hh => hh.2, fun hh => ⟨hn, hh⟩⟩
  rw [hmem]
  constructor
  · intro hall j hj
    cases hn : nearTo r t bs p c s j with
    | false => rfl
    | true =>
      exfalso
      simp only [nearTo, Bool.and_eq_true, decide_eq_true_eq] at hn
      obtain ⟨hj0, hap⟩ := hn
      have hjs : j ≠ s.toNat := fun e => hj0 (e ▸ hz)
      rcases Nat.lt_or_gt_of_ne hjs with h1 | h1
      · have h2 := hall j s.toNat hj (by omega) (nearB_iff.2 ⟨⟨h1, by rw [hset, if_neg hjs]; exact hj0⟩, by rw [hset, if_pos rfl]; decide, by rw [hset, hset, if_neg hjs, if_pos rfl, hcm j hj0, hc777, hsn, apD_sym, need_sym]; exact hap⟩)
        exact (nearB_iff.1 h2).2.1 hz
      · have h2 := hall s.toNat j (by omega) hj (nearB_iff.2 ⟨⟨h1, by rw [hset, if_pos rfl]; decide⟩, by rw [hset, if_neg hjs]; exact hj0, by rw [hset, hset, if_neg hjs, if_pos rfl, hcm j hj0, hc777, hsn]; exact hap⟩)
        exact (nearB_iff.1 h2).1.2 hz
  · intro hall a q ha hq hn
    obtain ⟨⟨h4, h5⟩, h6, h7⟩ := nearB_iff.1 hn
    rw [hset] at h5 h6
    rw [hset, hset] at h7
    by_cases e1 : a = s.toNat
    · exfalso
      have hqs : q ≠ s.toNat := by omega
      rw [if_neg hqs] at h6
      rw [if_pos e1, if_neg hqs, hc777, hcm q h6, e1, hsn] at h7
      have := hall q hq
      rw [nearTo, decide_eq_true h6, decide_eq_true h7] at this
      cases this
    · by_cases e2 : q = s.toNat
      · exfalso
        rw [if_neg e1] at h5
        rw [if_neg e1, if_pos e2, hc777, hcm a h5, e2, hsn, apD_sym, need_sym] at h7
        have := hall a ha
        rw [nearTo, decide_eq_true h5, decide_eq_true h7] at this
        cases this
      · rw [if_neg e1] at h5
        rw [if_neg e2] at h6
        rw [if_neg e1, if_neg e2] at h7
        exact nearB_iff.2 ⟨⟨h4, h5⟩, h6, h7⟩

end Go.Proofs.Ytjkghldkemoddaa
