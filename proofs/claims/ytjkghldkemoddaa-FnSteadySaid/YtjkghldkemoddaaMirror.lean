/- Plans turned: the mirror image, and turned round. No condition. -/
import Derived.Test.YtjkghldkemoddaaPlanX
import Derived.Test.YtjkghldkemoddaaLoadB
import Derived.Test.YtjkghldkemoddaaSumMono
namespace Go.Proofs.Ytjkghldkemoddaa
open Go
set_option linter.unusedVariables false
set_option linter.unusedSimpArgs false

theorem sumTo_pick (f : Nat → Int) (j : Nat) : ∀ n, j < n → sumTo (fun q => if j = q then f q else 0) n = f j
  | 0, h => by omega
  | n + 1, h => by
    rw [sumTo]
    by_cases e : j = n
    · subst e
      rw [sumTo_none _ _ (fun k hk => by rw [if_neg (by omega)]), if_pos rfl]; omega
    · rw [sumTo_pick f j n (by omega), if_neg e]; omega
/-- A turn of the slots that keeps rows together. -/
structure Turn (t : Int) (n : Nat) (g : Nat → Nat) : Prop where
  inn : ∀ k, k < n → g k < n
  inv : ∀ k, k < n → g (g k) = k
  tier : ∀ k, k < n → ((g k : Nat) : Int) % t = (k : Int) % t
  down : ∀ k, k < n → 0 < (k : Int) % t → g (k - 1) = g k - 1
theorem sumTo_turn {t : Int} {n : Nat} {g : Nat → Nat} (h : Turn t n g) (f : Nat → Int) : sumTo (fun k => f (g k)) n = sumTo f n := by
  have e1 : sumTo (fun k => f (g k)) n = sumTo (fun k => sumTo (fun j => if g k = j then f j else 0) n) n := sumTo_congr (fun k hk => (sumTo_pick f (g k) n (h.inn k hk)).symm)
  rw [e1, sumTo_swap]
  refine sumTo_congr (fun j hj => ?_)
  have e2 : sumTo (fun i => if g i = j then f j else 0) n = sumTo (fun i => if g j = i then f j else 0) n := sumTo_congr (fun i hi => by
    by_cases e : g i = j
    · rw [if_pos e, if_pos (by rw [← e, h.inv i hi])]
    · rw [if_neg e, if_neg (fun e3 => e (by rw [← e3, h.inv j hj]))])
  rw [e2]
  exact sumTo_pick (fun _ => f j) (g j) n (h.inn j hj)
/-- The plan turned. -/
def imgR (g : Nat → Nat) (p : List Int) : List Int := (List.range p.length).map fun j => p.getD (g j) 0
theorem imgR_len (g : Nat → Nat) (p : List Int) : (imgR g p).length = p.length := by simp [imgR]
theorem imgR_get {g : Nat → Nat} {p : List Int} {j : Nat} (h : j < p.length) : (imgR g p).getD j 0 = p.getD (g j) 0 := by
  simp [imgR, List.getD_eq_getElem?_getD, h]
theorem img_ok {b r t : Int} {bs : List BoxD} {p : List Int} {g : Nat → Nat} (h : PlanOK b r t bs p) (hg : Turn t p.length g) : PlanOK b r t bs (imgR g p) := by
  have hl := imgR_len g p
  refine { ship := h.ship, boxes := h.boxes, len := by rw [hl]; exact h.len, inb := fun k => ?_, uniq := fun j k hjk hk hz => ?_, firm := fun k hk hz hm => ?_ }
  · by_cases hk : k < p.length
    · rw [imgR_get hk]; exact h.inb _
    · left; exact getD_out (by omega)
  · rw [hl] at hk
    rw [imgR_get hk] at hz ⊢
    rw [imgR_get (by omega)]
    have hne : g j ≠ g k := fun e => by
      have h1 := hg.inv j (by omega)
      rw [e, hg.inv k hk] at h1; omega
    rcases Nat.lt_or_gt_of_ne hne with h1 | h1
    · exact h.uniq _ _ h1 (hg.inn k hk) hz
    · intro e
      exact h.uniq _ _ h1 (hg.inn j (by omega)) (by rw [e]; exact hz) e.symm
  · rw [hl] at hk
    have hk0 : k ≠ 0 := by intro hh; subst hh; simp at hm
    rw [imgR_get hk] at hz
    rw [imgR_get (by omega), hg.down k hk hm]
    exact h.firm _ (hg.inn k hk) hz (by rw [hg.tier k hk]; exact hm)
theorem img_step {g : Nat → Nat} {p out : List Int} {t : Int} {i : Nat} (hg : Turn t p.length g) (hi : i < p.length) (hl : out.length = p.length) (h : ∀ j, j < p.length → out.getD j 0 = if g j < i then p.getD (g j) 0 else 0) :
    ∀ j, j < p.length → (out.set (g i) (p.getD i 0)).getD j 0 = if g j < i + 1 then p.getD (g j) 0 else 0 := by
  intro j hj
  rw [getD_set]
  by_cases e : g i = j
  · rw [if_pos ⟨e, by omega⟩, ← e, hg.inv i hi, if_pos (by omega)]
  · rw [if_neg (fun hh => e hh.1), h j hj]
    have : g j ≠ i := fun e2 => e (by rw [← e2, hg.inv j hj])
    by_cases h2 : g j < i
    · rw [if_pos h2, if_pos (by omega)]
    · rw [if_neg h2, if_neg (by omega)]
theorem img_end {g : Nat → Nat} {p out : List Int} {t : Int} (hg : Turn t p.length g) (hl : out.length = p.length) (h : ∀ j, j < p.length → out.getD j 0 = if g j < p.length then p.getD (g j) 0 else 0) : out = imgR g p := by
  apply List.ext_getElem
  · rw [imgR_len, hl]
  · intro j h1 h2
    have := h j (by omega)
    rw [if_pos (hg.inn j (by omega)), ← imgR_get (by omega), getD_in h1, getD_in h2] at this
    exact this
/-- The slot with the rows of every bay in the other order; with the bays in the other order. -/
def mirN (b r t : Int) (k : Nat) : Nat := (slotF b r t (plB b r t k) (r - 1 - plR b r t k) (plT b r t k)).toNat
def turN (b r t : Int) (k : Nat) : Nat := (slotF b r t (b - 1 - plB b r t k) (plR b r t k) (plT b r t k)).toNat
theorem slot_parts {r t x y z : Int} (hr : 1 ≤ r) (ht : 1 ≤ t) (hy : 0 ≤ y ∧ y < r) (hz : 0 ≤ z ∧ z < t) : ((x * r + y) * t + z) / t = x * r + y ∧ ((x * r + y) * t + z) % t = z ∧ (x * r + y) / r = x ∧ (x * r + y) % r = y := by
  refine ⟨?_, ?_, ?_, ?_⟩
  · rw [Int.add_comm, Int.add_mul_ediv_right _ _ (by omega), Int.ediv_eq_zero_of_lt hz.1 hz.2]; omega
  · rw [Int.add_comm, Int.add_mul_emod_self_right, Int.emod_eq_of_lt hz.1 hz.2]
  · rw [Int.add_comm, Int.add_mul_ediv_right _ _ (by omega), Int.ediv_eq_zero_of_lt hy.1 hy.2]; omega
  · rw [Int.add_comm, Int.add_mul_emod_self_right, Int.emod_eq_of_lt hy.1 hy.2]
theorem place_of {b r t : Int} (h : hv b r t = true) {k : Nat} (hk : (k : Int) < b * r * t) :
    plB b r t k = (k : Int) / t / r ∧ plR b r t k = (k : Int) / t % r ∧ plT b r t k = (k : Int) % t ∧ (0 ≤ (k : Int) / t / r ∧ (k : Int) / t / r ≤ b - 1) ∧ (0 ≤ (k : Int) / t % r ∧ (k : Int) / t % r < r) ∧ (0 ≤ (k : Int) % t ∧ (k : Int) % t < t) ∧ ((k : Int) / t / r * r + (k : Int) / t % r) * t + (k : Int) % t = k := by
  have hin : inS b r t k = true := inS_of h ⟨by omega, by omega⟩
  have hb := inS_box hin
  have hbay := bay_le hin
  have d1 : ((k : Int) / t / r) * r + (k : Int) / t % r = (k : Int) / t := by have := Int.mul_ediv_add_emod ((k : Int) / t) r; rw [Int.mul_comm] at this; exact this
  have d2 : ((k : Int) / t) * t + (k : Int) % t = k := by have := Int.mul_ediv_add_emod (k : Int) t; rw [Int.mul_comm] at this; exact this
  refine ⟨by rw [plB, if_pos hin], by rw [plR, if_pos hin], by rw [plT, if_pos hin], ⟨by omega, hbay⟩, ⟨Int.emod_nonneg _ (by omega), Int.emod_lt_of_pos _ (by omega)⟩, ⟨Int.emod_nonneg _ (by omega), Int.emod_lt_of_pos _ (by omega)⟩, by rw [d1, d2]⟩
theorem slot_lt {b r t x y z : Int} (h : hv b r t = true) (hx : 0 ≤ x ∧ x ≤ b - 1) (hy : 0 ≤ y ∧ y < r) (hz : 0 ≤ z ∧ z < t) : slotF b r t x y z = (x * r + y) * t + z ∧ 0 ≤ (x * r + y) * t + z ∧ (x * r + y) * t + z < b * r * t := by
  have ht := hv_t h
  have e := slotF_yes (b := b) (r := r) (t := t) (x := x) (y := y) (z := z) ⟨⟨⟨h, hx⟩, ⟨hy.1, by omega⟩⟩, ⟨hz.1, by omega⟩⟩
  have h1 : 0 ≤ x * r := Int.mul_nonneg hx.1 (by omega)
  have h2 : 0 ≤ (x * r + y) * t := Int.mul_nonneg (by omega) (by omega)
  have h3 : x * r ≤ (b - 1) * r := Int.mul_le_mul_of_nonneg_right hx.2 (by omega)
  have h4 : (x * r + y) * t ≤ (b * r - 1) * t := Int.mul_le_mul_of_nonneg_right (by rw [Int.sub_mul] at h3; omega) (by omega)
  rw [Int.sub_mul] at h4
  exact ⟨e.symm, by omega, by omega⟩
theorem mir_key {b r t : Int} (h : hv b r t = true) {n : Nat} (hn : (n : Int) = b * r * t) : ∀ k, k < n → ((mirN b r t k : Nat) : Int) = ((k : Int) / t / r * r + (r - 1 - (k : Int) / t % r)) * t + (k : Int) % t ∧ mirN b r t k < n := by
  have ht := hv_t h
  intro k hk
  obtain ⟨h1, h2, h3, h4, h5, h6, h7⟩ := place_of h (k := k) (by omega)
  have h8 := slot_lt h h4 (y := r - 1 - (k : Int) / t % r) (by omega) h6
  rw [mirN, h1, h2, h3, h8.1]
  omega
theorem mir_parts {b r t : Int} (h : hv b r t = true) {n : Nat} (hn : (n : Int) = b * r * t) : ∀ k, k < n → ((mirN b r t k : Nat) : Int) / t / r = (k : Int) / t / r ∧ ((mirN b r t k : Nat) : Int) / t % r = r - 1 - (k : Int) / t % r ∧ ((mirN b r t k : Nat) : Int) % t = (k : Int) % t := by
  have ht := hv_t h
  have key := mir_key h hn
  intro k hk
  obtain ⟨h1, h2, h3, h4, h5, h6, h7⟩ := place_of h (k := k) (by omega)
  have h8 := slot_parts (x := (k : Int) / t / r) (r := r) (t := t) (by omega) (by omega) (y := r - 1 - (k : Int) / t % r) (by omega) h6
  rw [(key k hk).1, h8.1, h8.2.1, h8.2.2.1, h8.2.2.2]
  exact ⟨rfl, rfl, rfl⟩
theorem turn_mir {b r t : Int} (h : hv b r t = true) {n : Nat} (hn : (n : Int) = b * r * t) : Turn t n (mirN b r t) := by
  have ht := hv_t h
  have key := mir_key h hn
  have parts := mir_parts h hn
  refine ⟨fun k hk => (key k hk).2, fun k hk => ?_, fun k hk => (parts k hk).2.2, fun k hk hm => ?_⟩
  · have h1 := (key _ (key k hk).2).1
    obtain ⟨h2, h3, h4⟩ := parts k hk
    obtain ⟨_, _, _, _, _, _, h7⟩ := place_of h (k := k) (by omega)
    rw [h2, h3, h4, show r - 1 - (r - 1 - (k : Int) / t % r) = (k : Int) / t % r by omega, h7] at h1
    omega
  · have hk0 : k ≠ 0 := by intro hh; subst hh; simp at hm
    have h1 := (key k hk).1
    have h2 := (key (k - 1) (by omega)).1
    have e : ((k - 1 : Nat) : Int) = (k : Int) - 1 := by omega
    have e2 : ((k : Int) - 1) / t = (k : Int) / t := by
      have h3 := Int.mul_ediv_add_emod (k : Int) t
      have h4 : (k : Int) % t < t := Int.emod_lt_of_pos _ (by omega)
      have e1 : (k : Int) - 1 = ((k : Int) % t - 1) + t * ((k : Int) / t) := by omega
      rw [e1, Int.add_mul_ediv_left _ _ (by omega), Int.ediv_eq_zero_of_lt (by omega) (by omega)]; omega
    rw [e, e2, emod_pred (by omega) hm] at h2
    omega
theorem tur_key {b r t : Int} (h : hv b r t = true) {n : Nat} (hn : (n : Int) = b * r * t) : ∀ k, k < n → ((turN b r t k : Nat) : Int) = ((b - 1 - (k : Int) / t / r) * r + (k : Int) / t % r) * t + (k : Int) % t ∧ turN b r t k < n := by
  have ht := hv_t h
  intro k hk
  obtain ⟨h1, h2, h3, h4, h5, h6, h7⟩ := place_of h (k := k) (by omega)
  have h8 := slot_lt h (x := b - 1 - (k : Int) / t / r) (by omega) h5 h6
  rw [turN, h1, h2, h3, h8.1]
  omega
theorem tur_parts {b r t : Int} (h : hv b r t = true) {n : Nat} (hn : (n : Int) = b * r * t) : ∀ k, k < n → ((turN b r t k : Nat) : Int) / t / r = b - 1 - (k : Int) / t / r ∧ ((turN b r t k : Nat) : Int) / t % r = (k : Int) / t % r ∧ ((turN b r t k : Nat) : Int) % t = (k : Int) % t := by
  have ht := hv_t h
  have key := tur_key h hn
  intro k hk
  obtain ⟨h1, h2, h3, h4, h5, h6, h7⟩ := place_of h (k := k) (by omega)
  have h8 := slot_parts (x := b - 1 - (k : Int) / t / r) (r := r) (t := t) (by omega) (by omega) h5 h6
  rw [(key k hk).1, h8.1, h8.2.1, h8.2.2.1, h8.2.2.2]
  exact ⟨rfl, rfl, rfl⟩
theorem turn_tur {b r t : Int} (h : hv b r t = true) {n : Nat} (hn : (n : Int) = b * r * t) : Turn t n (turN b r t) := by
  have ht := hv_t h
  have key := tur_key h hn
  have parts := tur_parts h hn
  refine ⟨fun k hk => (key k hk).2, fun k hk => ?_, fun k hk => (parts k hk).2.2, fun k hk hm => ?_⟩
  · have h1 := (key _ (key k hk).2).1
    obtain ⟨h2, h3, h4⟩ := parts k hk
    obtain ⟨_, _, _, _, _, _, h7⟩ := place_of h (k := k) (by omega)
    rw [h2, h3, h4, show b - 1 - (b - 1 - (k : Int) / t / r) = (k : Int) / t / r by omega, h7] at h1
    omega
  · have hk0 : k ≠ 0 := by intro hh; subst hh; simp at hm
    have h1 := (key k hk).1
    have h2 := (key (k - 1) (by omega)).1
    have e : ((k - 1 : Nat) : Int) = (k : Int) - 1 := by omega
    have e2 : ((k : Int) - 1) / t = (k : Int) / t := by
      have h3 := Int.mul_ediv_add_emod (k : Int) t
      have h4 : (k : Int) % t < t := Int.emod_lt_of_pos _ (by omega)
      have e1 : (k : Int) - 1 = ((k : Int) % t - 1) + t * ((k : Int) / t) := by omega
      rw [e1, Int.add_mul_ediv_left _ _ (by omega), Int.ediv_eq_zero_of_lt (by omega) (by omega)]; omega
    rw [e, e2, emod_pred (by omega) hm] at h2
    omega
theorem sumTo_neg (f : Nat → Int) : ∀ n, sumTo (fun k => -f k) n = -sumTo f n
  | 0 => rfl
  | n + 1 => by simp only [sumTo, sumTo_neg f n]; omega
theorem sum_img {t : Int} {p : List Int} {g : Nat → Nat} (hg : Turn t p.length g) (w : Int → Int) (arm arm' : Nat → Int) (h : ∀ k, k < p.length → arm (g k) = arm' k) :
    sumTo (fun k => w ((imgR g p).getD k 0) * arm k) p.length = sumTo (fun k => w (p.getD k 0) * arm' k) p.length := by
  have e1 : sumTo (fun k => w ((imgR g p).getD k 0) * arm k) p.length = sumTo (fun k => (fun j => w (p.getD j 0) * arm (g j)) (g k)) p.length :=
    sumTo_congr (fun k hk => by dsimp only; rw [imgR_get hk, hg.inv k hk])
  refine e1.trans ((sumTo_turn hg (fun j => w (p.getD j 0) * arm (g j))).trans ?_)
  exact sumTo_congr (fun k hk => by rw [h k hk])
theorem img_planB {b r t : Int} {bs : List BoxD} {p : List Int} {g : Nat → Nat} (h : planB b r t bs p = true) (hg : Turn t p.length g) : planB b r t bs (imgR g p) = true := planB_of (img_ok (planB_ok h) hg)
/-- The mirror image heels to the other side. -/
theorem heel_mir {b r t : Int} {bs : List BoxD} {p : List Int} (h : planB b r t bs p = true) :
    planB b r t bs (imgR (mirN b r t) p) = true ∧ heelR b r t bs (imgR (mirN b r t) p) = -heelR b r t bs p ∧ trimR b r t bs (imgR (mirN b r t) p) = trimR b r t bs p := by
  have hok := planB_ok h
  have hg := turn_mir hok.ship hok.len
  have hp := img_planB h hg
  have hq := mir_parts hok.ship hok.len
  refine ⟨hp, ?_, ?_⟩
  · rw [heelR, if_pos hp, heelR, if_pos h, imgR_len, heelF, heelF, ← sumTo_neg]
    rw [sum_img hg (wAt bs) (armH r t) (fun k => -armH r t k) (fun k hk => by rw [armH, armH, (hq k hk).2.1]; omega)]
    exact sumTo_congr (fun k _ => by rw [Int.mul_neg])
  · rw [trimR, if_pos hp, trimR, if_pos h, imgR_len, trimF, trimF]
    exact sum_img hg (wAt bs) (armT b r t) (armT b r t) (fun k hk => by rw [armT, armT, (hq k hk).1])
/-- Turned round the ship trims to the other end. -/
theorem trim_tur {b r t : Int} {bs : List BoxD} {p : List Int} (h : planB b r t bs p = true) :
    planB b r t bs (imgR (turN b r t) p) = true ∧ trimR b r t bs (imgR (turN b r t) p) = -trimR b r t bs p ∧ heelR b r t bs (imgR (turN b r t) p) = heelR b r t bs p := by
  have hok := planB_ok h
  have hg := turn_tur hok.ship hok.len
  have hp := img_planB h hg
  have hq := tur_parts hok.ship hok.len
  refine ⟨hp, ?_, ?_⟩
  · rw [trimR, if_pos hp, trimR, if_pos h, imgR_len, trimF, trimF, ← sumTo_neg]
    rw [sum_img hg (wAt bs) (armT b r t) (fun k => -armT b r t k) (fun k hk => by rw [armT, armT, (hq k hk).1]; omega)]
    exact sumTo_congr (fun k _ => by rw [Int.mul_neg])
  · rw [heelR, if_pos hp, heelR, if_pos h, imgR_len, heelF, heelF]
    exact sum_img hg (wAt bs) (armH r t) (armH r t) (fun k hk => by rw [armH, armH, (hq k hk).2.1])
theorem sumTo_mul (f : Nat → Int) (c : Int) : ∀ n, sumTo (fun k => f k * c) n = sumTo f n * c
  | 0 => by simp [sumTo]
  | n + 1 => by simp only [sumTo, sumTo_mul f c n, Int.add_mul]
theorem trim_most {b r t : Int} {bs : List BoxD} {p : List Int} (h : planB b r t bs p = true) : trimR b r t bs p ≤ loadF b r t bs p * (b - 1) ∧ -trimR b r t bs p ≤ loadF b r t bs p * (b - 1) ∧ (0 ≤ loadF b r t bs p ∧ loadF b r t bs p ≤ 1080) ∧ (1 ≤ b ∧ b ≤ 4) := by
  have hok := planB_ok h
  have hle := hok.le
  have ht := hv_t hok.ship
  have hw := fun k => wAt_le hok.boxes (hok.inb k)
  have harm : ∀ k, k < p.length → -(b - 1) ≤ armT b r t k ∧ armT b r t k ≤ b - 1 := fun k hk => by
    have := place_of hok.ship (k := k) (by have := hok.len; omega)
    rw [armT]; omega
  rw [trimR, if_pos h, trimF, loadF, if_pos h, ← sumTo_mul, ← sumTo_neg]
  refine ⟨sumTo_mono fun k hk => Int.mul_le_mul_of_nonneg_left (harm k hk).2 (hw k).1, sumTo_mono fun k hk => ?_, ?_, ht.1, ht.2.1⟩
  · rw [← Int.mul_neg]; exact Int.mul_le_mul_of_nonneg_left (by have := harm k hk; omega) (hw k).1
  · have h1 : sumTo (fun _ => 0) p.length ≤ sumTo (fun k => wAt bs (p.getD k 0)) p.length := sumTo_mono fun k _ => (hw k).1
    rw [sumTo_none _ _ (fun _ _ => rfl)] at h1
    have h2 := sumTo_le (fun k => wAt bs (p.getD k 0)) 30 (fun k => by have := hw k; omega) p.length
    omega

end Go.Proofs.Ytjkghldkemoddaa
