/- Plain laws of sorted rows. No condition. -/
import Derived.Test.YtpiaeckkjdcifaaOkLoad
import Derived.Test.YtpiaeckkjdcifaaPlanX
import Derived.Test.YtpiaeckkjdcifaaSortC
import Derived.Test.YtpiaeckkjdcifaaRowW
namespace Go.Proofs.Ytpiaeckkjdcifaa
open Go
set_option linter.unusedVariables false
set_option linter.unusedSimpArgs false

theorem sortI_perm {c : Int → Int → Int} (hs : Go.Sort.SWO (Go.Proofs.ltOf c)) (xs : List Int) : (sortI c xs).Perm xs := by
  obtain ⟨hp, _⟩ := Go.Sort.insertionSort_holds hs xs.toArray 0 xs.length (Nat.zero_le _) (by simp)
  have hsz := hp.1
  have := hp.2.2
  have e1 : (Go.Sort.insertionSort (Go.Proofs.ltOf c) xs.toArray 0 xs.length).extract 0 xs.length = Go.Sort.insertionSort (Go.Proofs.ltOf c) xs.toArray 0 xs.length := by
    have hx : xs.length = (Go.Sort.insertionSort (Go.Proofs.ltOf c) xs.toArray 0 xs.length).size := by rw [hsz]; simp
    generalize Go.Sort.insertionSort (Go.Proofs.ltOf c) xs.toArray 0 xs.length = A at hx ⊢
    rw [hx]; exact Array.extract_size
  have e2 : xs.toArray.extract 0 xs.length = xs.toArray := by
    have hx : xs.length = xs.toArray.size := by simp
    rw [hx]; exact Array.extract_size
  rw [e1, e2] at this
  exact this
theorem sortI_1 (c : Int → Int → Int) (x : Int) : sortI c [x] = [x] := by
  unfold sortI Go.Sort.insertionSort
  rw [Go.Proofs.insOuter_stop _ _ _ _ _ (by simp)]
theorem sortI_2 (c : Int → Int → Int) (x y : Int) : sortI c [x, y] = if c y x < 0 then [y, x] else [x, y] := by
  unfold sortI Go.Sort.insertionSort
  rw [Go.Proofs.insOuter_go _ _ _ _ _ (by simp), Go.Proofs.insOuter_stop _ _ _ _ _ (by simp)]
  have i0 : ∀ d : Array Int, Go.Sort.insInner (Go.Proofs.ltOf c) 0 0 d = d := fun d => rfl
  have i1 : ∀ d : Array Int, Go.Sort.insInner (Go.Proofs.ltOf c) 0 (0 + 1) d = if c d[1]! d[0]! < 0 then Go.Sort.swp d 1 0 else d := fun d => by
    rw [Go.Sort.insInner, i0]; simp [Go.Proofs.ltOf]
  have s10 : ∀ u v : Int, Go.Sort.swp #[u, v] 1 0 = #[v, u] := fun u v => rfl
  have g0 : ∀ u v : Int, (#[u, v] : Array Int)[0]! = u := fun u v => rfl
  have g1 : ∀ u v : Int, (#[u, v] : Array Int)[1]! = v := fun u v => rfl
  rw [i1, g1, g0, s10]
  by_cases h : c y x < 0
  · rw [if_pos h, if_pos h]
  · rw [if_neg h, if_neg h]
theorem sortI_3 (c : Int → Int → Int) (x y z : Int) : sortI c [x, y, z] = if c y x < 0 then (if c z x < 0 then (if c z y < 0 then [z, y, x] else [y, z, x]) else [y, x, z]) else (if c z y < 0 then (if c z x < 0 then [z, x, y] else [x, z, y]) else [x, y, z]) := by
  unfold sortI Go.Sort.insertionSort
  rw [Go.Proofs.insOuter_go _ _ _ _ _ (by simp), Go.Proofs.insOuter_go _ _ _ _ _ (by simp), Go.Proofs.insOuter_stop _ _ _ _ _ (by simp)]
  have i0 : ∀ d : Array Int, Go.Sort.insInner (Go.Proofs.ltOf c) 0 0 d = d := fun d => rfl
  have i1 : ∀ d : Array Int, Go.Sort.insInner (Go.Proofs.ltOf c) 0 1 d = if c d[1]! d[0]! < 0 then Go.Sort.swp d 1 0 else d := fun d => by
    rw [Go.Sort.insInner, i0]; simp [Go.Proofs.ltOf]
  have i2 : ∀ d : Array Int, Go.Sort.insInner (Go.Proofs.ltOf c) 0 2 d = if c d[2]! d[1]! < 0 then Go.Sort.insInner (Go.Proofs.ltOf c) 0 1 (Go.Sort.swp d 2 1) else d := fun d => by
    rw [Go.Sort.insInner]; simp [Go.Proofs.ltOf]
  have s10 : ∀ u v q : Int, Go.Sort.swp #[u, v, q] 1 0 = #[v, u, q] := fun u v q => rfl
  have s21 : ∀ u v q : Int, Go.Sort.swp #[u, v, q] 2 1 = #[u, q, v] := fun u v q => rfl
  have g0 : ∀ u v q : Int, (#[u, v, q] : Array Int)[0]! = u := fun u v q => rfl
  have g1 : ∀ u v q : Int, (#[u, v, q] : Array Int)[1]! = v := fun u v q => rfl
  have g2 : ∀ u v q : Int, (#[u, v, q] : Array Int)[2]! = q := fun u v q => rfl
  rw [i1, g1, g0, s10]
  by_cases h1 : c y x < 0
  · rw [if_pos h1, if_pos h1, i2, g2, g1, s21, i1, g1, g0, s10]
    by_cases h2 : c z x < 0
    · rw [if_pos h2, if_pos h2]
      by_cases h3 : c z y < 0
      · rw [if_pos h3, if_pos h3]
      · rw [if_neg h3, if_neg h3]
    · rw [if_neg h2, if_neg h2]
  · rw [if_neg h1, if_neg h1, i2, g2, g1, s21, i1, g1, g0, s10]
    by_cases h2 : c z y < 0
    · rw [if_pos h2, if_pos h2]
      by_cases h3 : c z x < 0
      · rw [if_pos h3, if_pos h3]
      · rw [if_neg h3, if_neg h3]
    · rw [if_neg h2, if_neg h2]
/-- One exchange, one pass, many passes. -/
def swapT (w : Int → Int) (t : Int) (o : List Int) (n : Nat) : List Int := if 0 < (n : Int) % t ∧ w (o.getD (n - 1) 0) < w (o.getD n 0) then (o.set n (o.getD (n - 1) 0)).set (n - 1) (o.getD n 0) else o
def passTo (w : Int → Int) (t : Int) (o : List Int) : Nat → List Int
  | 0 => o
  | n + 1 => swapT w t (passTo w t o n) n
def passN (w : Int → Int) (t : Int) (p : List Int) : Nat → List Int
  | 0 => p
  | s + 1 => passTo w t (passN w t p s) p.length
theorem swapT_len (w : Int → Int) (t : Int) (o : List Int) (n : Nat) : (swapT w t o n).length = o.length := by unfold swapT; split <;> simp
theorem passTo_len (w : Int → Int) (t : Int) (o : List Int) : ∀ n, (passTo w t o n).length = o.length
  | 0 => rfl
  | n + 1 => by rw [passTo, swapT_len, passTo_len w t o n]
theorem passN_len (w : Int → Int) (t : Int) (p : List Int) : ∀ s, (passN w t p s).length = p.length
  | 0 => rfl
  | s + 1 => by rw [passN, passTo_len, passN_len w t p s]
theorem swapT_get {w : Int → Int} {t : Int} {o : List Int} {n : Nat} (hn : n < o.length) (i : Nat) : (swapT w t o n).getD i 0 = if 0 < (n : Int) % t ∧ w (o.getD (n - 1) 0) < w (o.getD n 0) then (if i = n - 1 then o.getD n 0 else if i = n then o.getD (n - 1) 0 else o.getD i 0) else o.getD i 0 := by
  unfold swapT
  split
  · rename_i h
    rw [getD_set, getD_set]
    by_cases e1 : i = n - 1
    · rw [if_pos ⟨e1.symm, by rw [List.length_set]; omega⟩, if_pos e1]
    · rw [if_neg (fun h => e1 h.1.symm), if_neg e1]
      by_cases e2 : i = n
      · rw [if_pos ⟨e2.symm, by omega⟩, if_pos e2]
      · rw [if_neg (fun h => e2 h.1.symm), if_neg e2]
  · rfl
theorem passTo_get {w : Int → Int} {t : Int} {o : List Int} {n : Nat} (hn : n < o.length) (i : Nat) : (passTo w t o (n + 1)).getD i 0 = if 0 < (n : Int) % t ∧ w ((passTo w t o n).getD (n - 1) 0) < w ((passTo w t o n).getD n 0) then (if i = n - 1 then (passTo w t o n).getD n 0 else if i = n then (passTo w t o n).getD (n - 1) 0 else (passTo w t o n).getD i 0) else (passTo w t o n).getD i 0 := swapT_get (by rw [passTo_len]; exact hn) i
theorem passTo_low {w : Int → Int} {t : Int} {o : List Int} : ∀ (n i : Nat), n ≤ o.length → n ≤ i → (passTo w t o n).getD i 0 = o.getD i 0
  | 0, i, _, _ => rfl
  | n + 1, i, hn, hi => by
    rw [passTo, swapT_get (by rw [passTo_len]; omega)]
    split
    · rename_i h
      rw [if_neg (by omega), if_neg (by omega)]
      exact passTo_low n i (by omega) (by omega)
    · exact passTo_low n i (by omega) (by omega)
theorem passTo_high {w : Int → Int} {t : Int} {o : List Int} {e : Nat} (he : (e : Int) % t = 0) : ∀ (n i : Nat), n ≤ o.length → e ≤ n → i < e → (passTo w t o n).getD i 0 = (passTo w t o e).getD i 0
  | 0, i, _, h, hi => by omega
  | n + 1, i, hn, h, hi => by
    by_cases e1 : e = n + 1
    · rw [e1]
    · rw [passTo, swapT_get (by rw [passTo_len]; omega)]
      have ih := passTo_high (w := w) (o := o) he n i (by omega) (by omega) hi
      split
      · rename_i h2
        have : n ≠ e := fun h3 => by rw [h3] at h2; omega
        rw [if_neg (by omega), if_neg (by omega)]; exact ih
      · exact ih
/-- A pass over one row. -/
def pass2 (w : Int → Int) (x y : Int) : Int × Int := if w x < w y then (y, x) else (x, y)
def pass3 (w : Int → Int) (r : Int × Int × Int) : Int × Int × Int := ((pass2 w r.1 r.2.1).1, (pass2 w (pass2 w r.1 r.2.1).2 r.2.2).1, (pass2 w (pass2 w r.1 r.2.1).2 r.2.2).2)
theorem pass2_lt {w : Int → Int} {x y : Int} (h : w x < w y) : pass2 w x y = (y, x) := if_pos h
theorem pass2_ge {w : Int → Int} {x y : Int} (h : ¬ w x < w y) : pass2 w x y = (x, y) := if_neg h
theorem pass_row3 {w : Int → Int} {o : List Int} {e : Nat} (he : (e : Int) % 3 = 0) (hl : e + 3 ≤ o.length) {N : Nat} (hN : N = o.length) :
    ((passTo w 3 o N).getD e 0, (passTo w 3 o N).getD (e + 1) 0, (passTo w 3 o N).getD (e + 2) 0) = pass3 w (o.getD e 0, o.getD (e + 1) 0, o.getD (e + 2) 0) := by
  have he3 : ((e + 3 : Nat) : Int) % 3 = 0 := by omega
  rw [passTo_high he3 N e (by omega) (by omega) (by omega), passTo_high he3 N (e + 1) (by omega) (by omega) (by omega), passTo_high he3 N (e + 2) (by omega) (by omega) (by omega)]
  have l0 := passTo_low (w := w) (t := 3) (o := o) e e (by omega) (by omega)
  have l1 := passTo_low (w := w) (t := 3) (o := o) e (e + 1) (by omega) (by omega)
  have l2 := passTo_low (w := w) (t := 3) (o := o) e (e + 2) (by omega) (by omega)
  have hlen := passTo_len w 3 o e
  have s1 : ∀ i, (passTo w 3 o (e + 1)).getD i 0 = (passTo w 3 o e).getD i 0 := fun i => by
    rw [passTo, swapT_get (by omega), if_neg (by omega)]
  have hlen1 := passTo_len w 3 o (e + 1)
  have s2 : ∀ i, (passTo w 3 o (e + 2)).getD i 0 = _ := fun i => passTo_get (n := e + 1) (by omega) i
  have hlen2 := passTo_len w 3 o (e + 2)
  have s3 : ∀ i, (passTo w 3 o (e + 3)).getD i 0 = _ := fun i => passTo_get (n := e + 2) (by omega) i
  have m1 : ((e + 1 : Nat) : Int) % 3 = 1 := by omega
  have m2 : ((e + 2 : Nat) : Int) % 3 = 2 := by omega
  have a0 : (passTo w 3 o (e + 2)).getD e 0 = (pass2 w (o.getD e 0) (o.getD (e + 1) 0)).1 := by
    rw [s2, m1, Nat.add_sub_cancel, s1, s1, l0, l1, pass2]
    by_cases h : w (o.getD e 0) < w (o.getD (e + 1) 0)
    · rw [if_pos ⟨by omega, h⟩, if_pos rfl, if_pos h]
    · rw [if_neg (fun h2 => h h2.2), if_neg h]
  have a1 : (passTo w 3 o (e + 2)).getD (e + 1) 0 = (pass2 w (o.getD e 0) (o.getD (e + 1) 0)).2 := by
    rw [s2, m1, Nat.add_sub_cancel, s1, s1, l0, l1, pass2]
    by_cases h : w (o.getD e 0) < w (o.getD (e + 1) 0)
    · rw [if_pos ⟨by omega, h⟩, if_neg (by omega), if_pos rfl, if_pos h]
    · rw [if_neg (fun h2 => h h2.2), if_neg h]
  have a2 : (passTo w 3 o (e + 2)).getD (e + 2) 0 = o.getD (e + 2) 0 := by
    rw [s2]
    split
    · rw [if_neg (by omega), if_neg (by omega)]; exact (s1 _).trans l2
    · exact (s1 _).trans l2
  have e21 : e + 2 - 1 = e + 1 := by omega
  have b0 : (passTo w 3 o (e + 3)).getD e 0 = (pass2 w (o.getD e 0) (o.getD (e + 1) 0)).1 := by
    rw [s3]
    split
    · rw [if_neg (by omega), if_neg (by omega)]; exact a0
    · exact a0
  have b1 : (passTo w 3 o (e + 3)).getD (e + 1) 0 = (pass2 w (pass2 w (o.getD e 0) (o.getD (e + 1) 0)).2 (o.getD (e + 2) 0)).1 := by
    rw [s3, m2, e21, a1, a2]
    by_cases h : w (pass2 w (o.getD e 0) (o.getD (e + 1) 0)).2 < w (o.getD (e + 2) 0)
    · rw [if_pos ⟨by omega, h⟩, if_pos rfl, pass2_lt h]
    · rw [if_neg (fun h2 => h h2.2), pass2_ge h]
  have b2 : (passTo w 3 o (e + 3)).getD (e + 2) 0 = (pass2 w (pass2 w (o.getD e 0) (o.getD (e + 1) 0)).2 (o.getD (e + 2) 0)).2 := by
    rw [s3, m2, e21, a1, a2]
    by_cases h : w (pass2 w (o.getD e 0) (o.getD (e + 1) 0)).2 < w (o.getD (e + 2) 0)
    · rw [if_pos ⟨by omega, h⟩, if_neg (by omega), if_pos rfl, pass2_lt h]
    · rw [if_neg (fun h2 => h h2.2), pass2_ge h]
  unfold pass3
  dsimp only
  rw [b0, b1, b2]
theorem pass_row2 {w : Int → Int} {o : List Int} {e : Nat} (he : (e : Int) % 2 = 0) (hl : e + 2 ≤ o.length) {N : Nat} (hN : N = o.length) :
    ((passTo w 2 o N).getD e 0, (passTo w 2 o N).getD (e + 1) 0) = pass2 w (o.getD e 0) (o.getD (e + 1) 0) := by
  have he3 : ((e + 2 : Nat) : Int) % 2 = 0 := by omega
  rw [passTo_high he3 N e (by omega) (by omega) (by omega), passTo_high he3 N (e + 1) (by omega) (by omega) (by omega)]
  have l0 := passTo_low (w := w) (t := 2) (o := o) e e (by omega) (by omega)
  have l1 := passTo_low (w := w) (t := 2) (o := o) e (e + 1) (by omega) (by omega)
  have hlen := passTo_len w 2 o e
  have s1 : ∀ i, (passTo w 2 o (e + 1)).getD i 0 = (passTo w 2 o e).getD i 0 := fun i => by
    rw [passTo, swapT_get (by omega), if_neg (by omega)]
  have hlen1 := passTo_len w 2 o (e + 1)
  have s2 : ∀ i, (passTo w 2 o (e + 2)).getD i 0 = _ := fun i => passTo_get (n := e + 1) (by omega) i
  have m1 : ((e + 1 : Nat) : Int) % 2 = 1 := by omega
  have b0 : (passTo w 2 o (e + 2)).getD e 0 = (pass2 w (o.getD e 0) (o.getD (e + 1) 0)).1 := by
    rw [s2, m1, Nat.add_sub_cancel, s1, s1, l0, l1]
    by_cases h : w (o.getD e 0) < w (o.getD (e + 1) 0)
    · rw [if_pos ⟨by omega, h⟩, if_pos rfl, pass2_lt h]
    · rw [if_neg (fun h2 => h h2.2), pass2_ge h]
  have b1 : (passTo w 2 o (e + 2)).getD (e + 1) 0 = (pass2 w (o.getD e 0) (o.getD (e + 1) 0)).2 := by
    rw [s2, m1, Nat.add_sub_cancel, s1, s1, l0, l1]
    by_cases h : w (o.getD e 0) < w (o.getD (e + 1) 0)
    · rw [if_pos ⟨by omega, h⟩, if_neg (by omega), if_pos rfl, pass2_lt h]
    · rw [if_neg (fun h2 => h h2.2), pass2_ge h]
  rw [b0, b1]
theorem pass_row1 {w : Int → Int} {o : List Int} : ∀ n, passTo w 1 o n = o
  | 0 => rfl
  | n + 1 => by rw [passTo, pass_row1 n, swapT, if_neg (by omega)]
def sort3 (w : Int → Int) (x y z : Int) : Int × Int × Int := if w x < w y then (if w x < w z then (if w y < w z then (z, y, x) else (y, z, x)) else (y, x, z)) else (if w y < w z then (if w x < w z then (z, x, y) else (x, z, y)) else (x, y, z))
theorem pass3_sort (w : Int → Int) (x y z : Int) : pass3 w (pass3 w (pass3 w (x, y, z))) = sort3 w x y z := by
  have key : ∀ a b : Int, (w a < w b ∧ ¬ w b < w a) ∨ (¬ w a < w b ∧ w b < w a) ∨ (¬ w a < w b ∧ ¬ w b < w a) := fun a b => by omega
  rcases key x y with ⟨a1, a2⟩ | ⟨a1, a2⟩ | ⟨a1, a2⟩ <;> rcases key y z with ⟨b1, b2⟩ | ⟨b1, b2⟩ | ⟨b1, b2⟩ <;> rcases key x z with ⟨c1, c2⟩ | ⟨c1, c2⟩ | ⟨c1, c2⟩ <;>
    first
    | (exfalso; omega)
    | (simp only [pass3, sort3, pass2_lt, pass2_ge, a1, a2, b1, b2, c1, c2, if_true, if_false, not_false_eq_true]; done)
    | (simp [pass3, sort3, pass2, a1, a2, b1, b2, c1, c2]; done)
theorem sort3_is (w : Int → Int) (x y z : Int) : sortI (fun a b => w b - w a) [x, y, z] = [(sort3 w x y z).1, (sort3 w x y z).2.1, (sort3 w x y z).2.2] := by
  rw [sortI_3]
  have e : ∀ a b : Int, (w b - w a < 0) = (w b < w a) := fun a b => propext ⟨fun h => by omega, fun h => by omega⟩
  simp only [e, sort3]
  repeat' split
  all_goals first | rfl | (exfalso; omega)
theorem sort3_desc (w : Int → Int) (x y z : Int) : w (sort3 w x y z).2.1 ≤ w (sort3 w x y z).1 ∧ w (sort3 w x y z).2.2 ≤ w (sort3 w x y z).2.1 := by
  unfold sort3
  repeat' split
  all_goals (dsimp only; omega)
theorem wAt_zero (bs : List BoxD) : wAt bs 0 = 0 := by rw [wAt, if_pos rfl]
theorem PlanOK.w {b r t : Int} {bs : List BoxD} {p : List Int} (h : PlanOK b r t bs p) (k : Nat) : 0 ≤ wAt bs (p.getD k 0) ∧ wAt bs (p.getD k 0) ≤ 30 := wAt_le h.boxes (h.inb k)
theorem swap_full {b r t : Int} {bs : List BoxD} {p : List Int} (h : PlanOK b r t bs p) {n : Nat} (hn : n < p.length) (hm : 0 < (n : Int) % t) (hw : wAt bs (p.getD (n - 1) 0) < wAt bs (p.getD n 0)) : p.getD n 0 ≠ 0 ∧ p.getD (n - 1) 0 ≠ 0 := by
  have h1 : p.getD n 0 ≠ 0 := fun e => by
    have := (h.w (n - 1)).1
    rw [e, wAt_zero] at hw; omega
  exact ⟨h1, h.firm n hn h1 hm⟩
theorem swapT_ok {b r t : Int} {bs : List BoxD} {p : List Int} (h : PlanOK b r t bs p) {n : Nat} (hn : n < p.length) : PlanOK b r t bs (swapT (wAt bs) t p n) := by
  by_cases hc : 0 < (n : Int) % t ∧ wAt bs (p.getD (n - 1) 0) < wAt bs (p.getD n 0)
  · obtain ⟨f1, f2⟩ := swap_full h hn hc.1 hc.2
    have hn0 : 0 < n := by
      rcases Nat.eq_zero_or_pos n with e | e
      · subst e; simp at hc
      · exact e
    have hg : ∀ i, (swapT (wAt bs) t p n).getD i 0 = if i = n - 1 then p.getD n 0 else if i = n then p.getD (n - 1) 0 else p.getD i 0 := fun i => by rw [swapT_get hn, if_pos hc]
    have hU : ∀ a c, a ≠ c → a < p.length → c < p.length → p.getD c 0 ≠ 0 → p.getD a 0 ≠ p.getD c 0 := fun a c hac ha hcl h0 e => by
      rcases Nat.lt_or_gt_of_ne hac with h1 | h1
      · exact h.uniq a c h1 hcl h0 e
      · exact h.uniq c a h1 ha (by rw [e]; exact h0) e.symm
    have hz : ∀ i, (swapT (wAt bs) t p n).getD i 0 ≠ 0 ↔ p.getD i 0 ≠ 0 := fun i => by
      rw [hg]
      by_cases e1 : i = n - 1
      · rw [if_pos e1, e1]; exact ⟨fun _ => f2, fun _ => f1⟩
      · rw [if_neg e1]
        by_cases e2 : i = n
        · rw [if_pos e2, e2]; exact ⟨fun _ => f1, fun _ => f2⟩
        · rw [if_neg e2]
    refine ⟨h.ship, h.boxes, by rw [swapT_len]; exact h.len, fun k => ?_, fun j k hjk hk h0 => ?_, fun k hk h0 hm => ?_⟩
    · rw [hg]; split
      · exact h.inb n
      · split
        · exact h.inb (n - 1)
        · exact h.inb k
    · rw [swapT_len] at hk
      have h0' := (hz k).1 h0
      rw [hg, hg]
      by_cases k1 : k = n - 1
      · rw [if_pos k1, if_neg (by omega), if_neg (by omega)]; exact hU j n (by omega) (by omega) hn f1
      · rw [if_neg k1]
        by_cases k2 : k = n
        · rw [if_pos k2]
          by_cases j1 : j = n - 1
          · rw [if_pos j1]; exact hU n (n - 1) (by omega) hn (by omega) f2
          · rw [if_neg j1, if_neg (by omega)]; exact hU j (n - 1) (by omega) (by omega) (by omega) f2
        · rw [if_neg k2]
          by_cases j1 : j = n - 1
          · rw [if_pos j1]; exact hU n k (by omega) hn hk h0'
          · rw [if_neg j1]
            by_cases j2 : j = n
            · rw [if_pos j2]; exact hU (n - 1) k (by omega) (by omega) hk h0'
            · rw [if_neg j2]; exact hU j k (by omega) (by omega) hk h0'
    · rw [swapT_len] at hk
      exact (hz (k - 1)).2 (h.firm k hk ((hz k).1 h0) hm)
  · have : swapT (wAt bs) t p n = p := by unfold swapT; rw [if_neg hc]
    rw [this]; exact h
theorem passTo_ok {b r t : Int} {bs : List BoxD} {p : List Int} (h : PlanOK b r t bs p) : ∀ n, n ≤ p.length → PlanOK b r t bs (passTo (wAt bs) t p n)
  | 0, _ => h
  | n + 1, hn => swapT_ok (passTo_ok h n (by omega)) (by rw [passTo_len]; omega)
theorem passN_ok {b r t : Int} {bs : List BoxD} {p : List Int} (h : PlanOK b r t bs p) : ∀ s, PlanOK b r t bs (passN (wAt bs) t p s)
  | 0 => h
  | s + 1 => passTo_ok (passN_ok h s) _ (by rw [passN_len]; exact Nat.le_refl _)
theorem upd_sum (f g : Nat → Int) (k : Nat) (h : ∀ j, j ≠ k → g j = f j) : ∀ n, k < n → sumTo g n = sumTo f n - f k + g k
  | 0, hk => by omega
  | n + 1, hk => by
    by_cases e : k = n
    · subst e
      rw [sumTo, sumTo, sumTo_congr (f := g) (g := f) (fun j hj => h j (by omega))]; omega
    · rw [sumTo, sumTo, upd_sum f g k h n (by omega), h n (fun e2 => e e2.symm)]; omega
theorem swapT_sum {w : Int → Int} {t : Int} (ht : 0 < t) {o : List Int} {n : Nat} (hn : n < o.length) (F : Int → Int → Int) : sumTo (fun k => F ((k : Int) / t) (w ((swapT w t o n).getD k 0))) o.length = sumTo (fun k => F ((k : Int) / t) (w (o.getD k 0))) o.length := by
  by_cases hc : 0 < (n : Int) % t ∧ w (o.getD (n - 1) 0) < w (o.getD n 0)
  · have hn0 : 0 < n := by
      rcases Nat.eq_zero_or_pos n with e | e
      · subst e; simp at hc
      · exact e
    have hd : ((n - 1 : Nat) : Int) / t = (n : Int) / t := by
      have h1 : ((n - 1 : Nat) : Int) = (n : Int) - 1 := by omega
      have h2 := Int.mul_ediv_add_emod (n : Int) t
      have h3 := Int.emod_lt_of_pos (n : Int) ht
      rw [h1]
      have h4 : (n : Int) - 1 = ((n : Int) % t - 1) + t * ((n : Int) / t) := by omega
      rw [h4, Int.add_mul_ediv_left _ _ (by omega), Int.ediv_eq_zero_of_lt (by omega) (by omega)]; omega
    have hg : ∀ i, (swapT w t o n).getD i 0 = if i = n - 1 then o.getD n 0 else if i = n then o.getD (n - 1) 0 else o.getD i 0 := fun i => by rw [swapT_get hn, if_pos hc]
    rw [upd_sum (fun k => if k = n then F ((n : Int) / t) (w (o.getD (n - 1) 0)) else F ((k : Int) / t) (w (o.getD k 0))) _ (n - 1) (fun j hj => by
      rw [hg, if_neg hj]
      by_cases e : j = n
      · rw [if_pos e, if_pos e, e]
      · rw [if_neg e, if_neg e]) o.length (by omega),
      upd_sum (fun k => F ((k : Int) / t) (w (o.getD k 0))) _ n (fun j hj => by rw [if_neg hj]) o.length hn]
    rw [hg, if_pos rfl, if_pos rfl, if_neg (by omega), hd]
    omega
  · have : swapT w t o n = o := by unfold swapT; rw [if_neg hc]
    rw [this]
theorem passTo_sum {w : Int → Int} {t : Int} (ht : 0 < t) {o : List Int} (F : Int → Int → Int) : ∀ n, n ≤ o.length → sumTo (fun k => F ((k : Int) / t) (w ((passTo w t o n).getD k 0))) o.length = sumTo (fun k => F ((k : Int) / t) (w (o.getD k 0))) o.length
  | 0, _ => rfl
  | n + 1, hn => by
    have h := swapT_sum (w := w) ht (o := passTo w t o n) (n := n) (by rw [passTo_len]; omega) F
    rw [passTo_len] at h
    exact h.trans (passTo_sum ht F n (by omega))
theorem passN_sum {w : Int → Int} {t : Int} (ht : 0 < t) {p : List Int} (F : Int → Int → Int) : ∀ s, sumTo (fun k => F ((k : Int) / t) (w ((passN w t p s).getD k 0))) p.length = sumTo (fun k => F ((k : Int) / t) (w (p.getD k 0))) p.length
  | 0 => rfl
  | s + 1 => by
    have h := passTo_sum (w := w) ht (o := passN w t p s) F p.length (by rw [passN_len]; exact Nat.le_refl _)
    rw [passN_len] at h
    exact h.trans (passN_sum ht F s)
/-- The rows behind all passes. -/
theorem rows_3 (w : Int → Int) (p : List Int) {e : Nat} (he : (e : Int) % 3 = 0) (hl : e + 3 ≤ p.length) : ((passN w 3 p 3).getD e 0, (passN w 3 p 3).getD (e + 1) 0, (passN w 3 p 3).getD (e + 2) 0) = sort3 w (p.getD e 0) (p.getD (e + 1) 0) (p.getD (e + 2) 0) := by
  have h0 := pass_row3 (w := w) (o := p) he hl rfl
  have h1 := pass_row3 (w := w) (o := passN w 3 p 1) he (by rw [passN_len]; exact hl) (N := p.length) (by rw [passN_len])
  have h2 := pass_row3 (w := w) (o := passN w 3 p 2) he (by rw [passN_len]; exact hl) (N := p.length) (by rw [passN_len])
  rw [← pass3_sort, ← h0]
  exact h2.trans (congrArg (pass3 w) h1)
theorem rows_2 (w : Int → Int) (p : List Int) {e : Nat} (he : (e : Int) % 2 = 0) (hl : e + 2 ≤ p.length) : ((passN w 2 p 2).getD e 0, (passN w 2 p 2).getD (e + 1) 0) = pass2 w (p.getD e 0) (p.getD (e + 1) 0) := by
  have h0 := pass_row2 (w := w) (o := p) he hl rfl
  have h1 := pass_row2 (w := w) (o := passN w 2 p 1) he (by rw [passN_len]; exact hl) (N := p.length) (by rw [passN_len])
  refine h1.trans ?_
  have e0 : (passN w 2 p 1).getD e 0 = (pass2 w (p.getD e 0) (p.getD (e + 1) 0)).1 := congrArg Prod.fst h0
  have e1 : (passN w 2 p 1).getD (e + 1) 0 = (pass2 w (p.getD e 0) (p.getD (e + 1) 0)).2 := congrArg Prod.snd h0
  rw [e0, e1]
  by_cases h : w (p.getD e 0) < w (p.getD (e + 1) 0)
  · rw [pass2_lt h, pass2_ge (by dsimp only; omega)]
  · rw [pass2_ge h, pass2_ge h]
theorem rows_1 (w : Int → Int) (p : List Int) : passN w 1 p 1 = p := by rw [passN, pass_row1]; rfl
theorem row_base {t n : Nat} (ht : 1 ≤ t) : (((n - n % t : Nat) : Int)) % (t : Int) = 0 ∧ n - n % t ≤ n := by
  refine ⟨?_, by omega⟩
  have : ((n - n % t : Nat) : Int) = (n : Int) - (n : Int) % (t : Int) := by
    have := Nat.mod_le n t
    omega
  rw [this]
  have h2 := Int.mul_ediv_add_emod (n : Int) (t : Int)
  have h4 : (n : Int) - (n : Int) % t = t * ((n : Int) / t) := by omega
  rw [h4, Int.mul_emod_right]
/-- In the rows behind all passes no box lies on a lighter one. -/
theorem rows_desc {w : Int → Int} {t : Int} (ht : 1 ≤ t ∧ t ≤ 3) {p : List Int} {m : Nat} (hlen : p.length = m * t.toNat) {k : Nat} (hk : k < p.length) (hm : 0 < (k : Int) % t) : w ((passN w t p t.toNat).getD k 0) ≤ w ((passN w t p t.toNat).getD (k - 1) 0) := by
  rcases (show t = 1 ∨ t = 2 ∨ t = 3 by omega) with h | h | h
  · subst h; omega
  · subst h
    have hk2 : k % 2 = 1 := by omega
    have h1 := rows_2 w p (e := k - 1) (by omega) (by have : p.length % 2 = 0 := by rw [hlen]; exact Nat.mul_mod_left m 2
                                                      omega)
    have e0 := congrArg Prod.fst h1
    have e1 := congrArg Prod.snd h1
    rw [show k - 1 + 1 = k by omega] at e0 e1
    dsimp only at e0 e1
    show w ((passN w 2 p 2).getD k 0) ≤ w ((passN w 2 p 2).getD (k - 1) 0)
    rw [e0, e1]
    by_cases h : w (p.getD (k - 1) 0) < w (p.getD k 0)
    · rw [pass2_lt h]; dsimp only; omega
    · rw [pass2_ge h]; dsimp only; omega
  · subst h
    have hlm : p.length % 3 = 0 := by rw [hlen]; exact Nat.mul_mod_left m 3
    have h1 := rows_3 w p (e := k - k % 3) (by omega) (by omega)
    have hd := sort3_desc w (p.getD (k - k % 3) 0) (p.getD (k - k % 3 + 1) 0) (p.getD (k - k % 3 + 2) 0)
    rw [← h1] at hd
    dsimp only at hd
    show w ((passN w 3 p 3).getD k 0) ≤ w ((passN w 3 p 3).getD (k - 1) 0)
    rcases (show k % 3 = 1 ∨ k % 3 = 2 by omega) with h | h
    · rw [h, show k - 1 + 1 = k by omega] at hd; exact hd.1
    · rw [h, show k - 2 + 2 = k by omega, show k - 2 + 1 = k - 1 by omega] at hd; exact hd.2
theorem pass_idle {w : Int → Int} {t : Int} {p : List Int} (h : ∀ k, k < p.length → 0 < (k : Int) % t → w (p.getD k 0) ≤ w (p.getD (k - 1) 0)) : ∀ n, n ≤ p.length → passTo w t p n = p
  | 0, _ => rfl
  | n + 1, hn => by
    rw [passTo, pass_idle h n (by omega), swapT, if_neg (fun hc => by have := h n (by omega) hc.1; omega)]
theorem passN_idle {w : Int → Int} {t : Int} {p : List Int} (h : ∀ k, k < p.length → 0 < (k : Int) % t → w (p.getD k 0) ≤ w (p.getD (k - 1) 0)) : ∀ s, passN w t p s = p
  | 0 => rfl
  | s + 1 => by rw [passN, passN_idle h s, pass_idle h _ (Nat.le_refl _)]
/-- Row by row, each one sorted. -/
def wC (w : Int → Int) (a b : Int) : Int := w b - w a
def rowStep (w : Int → Int) (t : Nat) (q : List Int) (m : Nat) : List Int := q.take (m * t) ++ sortI (wC w) ((q.drop (m * t)).take t) ++ q.drop (m * t + t)
def rowsTo (w : Int → Int) (t : Nat) (p : List Int) : Nat → List Int
  | 0 => p
  | m + 1 => rowStep w t (rowsTo w t p m) m
theorem rowStep_len {w : Int → Int} {t : Nat} {q : List Int} {m : Nat} (h : m * t + t ≤ q.length) : (rowStep w t q m).length = q.length := by
  simp only [rowStep, List.length_append, List.length_take, List.length_drop, sortI_len]; omega
theorem rowsTo_len {w : Int → Int} {t : Nat} {p : List Int} : ∀ m, m * t ≤ p.length → (rowsTo w t p m).length = p.length
  | 0, _ => rfl
  | m + 1, h => by
    have h2 : m * t + t ≤ p.length := by rw [Nat.succ_mul] at h; exact h
    have ih := rowsTo_len (w := w) (t := t) (p := p) m (by omega)
    rw [rowsTo, rowStep_len (by omega), ih]
theorem rowStep_get {w : Int → Int} {t : Nat} {q : List Int} {m : Nat} (h : m * t + t ≤ q.length) (i : Nat) : (rowStep w t q m).getD i 0 = if m * t ≤ i ∧ i < m * t + t then (sortI (wC w) ((q.drop (m * t)).take t)).getD (i - m * t) 0 else q.getD i 0 := by
  have hs : (sortI (wC w) ((q.drop (m * t)).take t)).length = t := by rw [sortI_len, List.length_take, List.length_drop]; omega
  unfold rowStep
  rw [List.getD_eq_getElem?_getD, List.append_assoc]
  by_cases h1 : i < m * t
  · rw [List.getElem?_append_left (by rw [List.length_take]; omega), if_neg (by omega), List.getElem?_take, if_pos h1, List.getD_eq_getElem?_getD]
  · rw [List.getElem?_append_right (by rw [List.length_take]; omega), List.length_take, Nat.min_eq_left (by omega)]
    by_cases h2 : i < m * t + t
    · rw [List.getElem?_append_left (by omega), if_pos ⟨by omega, h2⟩, List.getD_eq_getElem?_getD]
    · rw [List.getElem?_append_right (by omega), hs, List.getElem?_drop, if_neg (by omega), List.getD_eq_getElem?_getD]
      congr 2; omega
theorem rowsTo_high {w : Int → Int} {t : Nat} {p : List Int} : ∀ m, m * t ≤ p.length → ∀ i, m * t ≤ i → (rowsTo w t p m).getD i 0 = p.getD i 0
  | 0, _, i, _ => rfl
  | m + 1, h, i, hi => by
    have h2 : m * t + t ≤ p.length := by rw [Nat.succ_mul] at h; exact h
    rw [Nat.succ_mul] at hi
    rw [rowsTo, rowStep_get (by rw [rowsTo_len (w := w) (t := t) (p := p) m (by omega)]; exact h2), if_neg (by omega)]
    exact rowsTo_high m (by omega) i (by omega)
theorem rowsTo_get {w : Int → Int} {t : Nat} {p : List Int} : ∀ M, M * t ≤ p.length → ∀ m, m < M → ∀ j, j < t → (rowsTo w t p M).getD (m * t + j) 0 = (sortI (wC w) ((List.range t).map fun k => p.getD (m * t + k) 0)).getD j 0
  | 0, _, m, hm, _, _ => by omega
  | M + 1, h, m, hm, j, hj => by
    have h2 : M * t + t ≤ p.length := by rw [Nat.succ_mul] at h; exact h
    rw [rowsTo, rowStep_get (by rw [rowsTo_len (w := w) (t := t) (p := p) M (by omega)]; exact h2)]
    by_cases e : m = M
    · subst e
      rw [if_pos ⟨by omega, by omega⟩, Nat.add_sub_cancel_left]
      have hrow : ((rowsTo w t p m).drop (m * t)).take t = (List.range t).map fun k => p.getD (m * t + k) 0 := by
        apply List.ext_getElem?
        intro k
        rw [List.getElem?_take, List.getElem?_drop, List.getElem?_map]
        by_cases hk : k < t
        · have hg := rowsTo_high (w := w) (t := t) (p := p) m (by omega) (m * t + k) (by omega)
          have hl := rowsTo_len (w := w) (t := t) (p := p) m (by omega)
          rw [if_pos hk, List.getElem?_range hk, List.getElem?_eq_getElem (by omega)]
          rw [List.getD_eq_getElem?_getD, List.getElem?_eq_getElem (by omega)] at hg
          simpa using hg
        · rw [if_neg hk, List.getElem?_eq_none (by simpa using hk)]; rfl
      rw [hrow]
    · have hlt : (m + 1) * t ≤ M * t := Nat.mul_le_mul_right t (by omega)
      rw [Nat.succ_mul] at hlt
      rw [if_neg (by omega)]
      exact rowsTo_get M (by omega) m (by omega) j hj
theorem rows_same {w : Int → Int} {t : Int} (ht : 1 ≤ t ∧ t ≤ 3) {p : List Int} {M : Nat} (hlen : p.length = M * t.toNat) : rowsTo w t.toNat p M = passN w t p t.toNat := by
  have hl1 := rowsTo_len (w := w) (t := t.toNat) (p := p) M (by omega)
  have hl2 := passN_len w t p t.toNat
  apply List.ext_getElem (by omega)
  intro i h1 h2
  have g : ∀ (l : List Int) (h : i < l.length), l[i] = l.getD i 0 := fun l h => by rw [List.getD_eq_getElem?_getD, List.getElem?_eq_getElem h]; rfl
  rw [g _ h1, g _ h2]
  have htn : 0 < t.toNat := by omega
  have hq : i / t.toNat < M := by rw [Nat.div_lt_iff_lt_mul htn]; omega
  have hr := Nat.mod_lt i htn
  have hi : i = i / t.toNat * t.toNat + i % t.toNat := by have := Nat.div_add_mod i t.toNat; rw [Nat.mul_comm] at this; exact this.symm
  have hget := rowsTo_get (w := w) (t := t.toNat) (p := p) M (by omega) (i / t.toNat) hq (i % t.toNat) hr
  rw [← hi] at hget
  rw [hget]
  have hle : i / t.toNat * t.toNat + t.toNat ≤ p.length := by
    have h3 : (i / t.toNat + 1) * t.toNat ≤ M * t.toNat := Nat.mul_le_mul_right _ (by omega)
    rw [Nat.succ_mul] at h3; omega
  generalize i / t.toNat = m at *
  generalize hj : i % t.toNat = j at *
  clear hget hq hj
  rcases (show t = 1 ∨ t = 2 ∨ t = 3 by omega) with h | h | h
  · subst h
    have hj0 : j = 0 := by have : j < 1 := hr; omega
    subst hj0
    show (sortI (wC w) [p.getD (m * 1 + 0) 0]).getD 0 0 = (passN w 1 p 1).getD i 0
    rw [sortI_1, rows_1]
    have : i = m * 1 + 0 := hi
    rw [this]; rfl
  · subst h
    have hr2 : j < 2 := hr
    have hi2 : i = m * 2 + j := hi
    have hle2 : m * 2 + 2 ≤ p.length := hle
    show (sortI (wC w) [p.getD (m * 2) 0, p.getD (m * 2 + 1) 0]).getD j 0 = (passN w 2 p 2).getD i 0
    have h3 := rows_2 w p (e := m * 2) (by omega) hle2
    have e0 := congrArg Prod.fst h3
    have e1 := congrArg Prod.snd h3
    dsimp only at e0 e1
    rw [sortI_2]
    have hcc : (wC w (p.getD (m * 2 + 1) 0) (p.getD (m * 2) 0) < 0) = (w (p.getD (m * 2) 0) < w (p.getD (m * 2 + 1) 0)) := by unfold wC; exact propext ⟨fun h => by omega, fun h => by omega⟩
    rw [hi2]
    rcases (show j = 0 ∨ j = 1 by omega) with e | e
    · subst e
      rw [show m * 2 + 0 = m * 2 from rfl, e0]
      by_cases h : w (p.getD (m * 2) 0) < w (p.getD (m * 2 + 1) 0)
      · rw [if_pos (by rw [hcc]; exact h), pass2_lt h]; rfl
      · rw [if_neg (by rw [hcc]; exact h), pass2_ge h]; rfl
    · subst e
      rw [e1]
      by_cases h : w (p.getD (m * 2) 0) < w (p.getD (m * 2 + 1) 0)
      · rw [if_pos (by rw [hcc]; exact h), pass2_lt h]; rfl
      · rw [if_neg (by rw [hcc]; exact h), pass2_ge h]; rfl
  · subst h
    have hr2 : j < 3 := hr
    have hi2 : i = m * 3 + j := hi
    have hle2 : m * 3 + 3 ≤ p.length := hle
    show (sortI (wC w) [p.getD (m * 3) 0, p.getD (m * 3 + 1) 0, p.getD (m * 3 + 2) 0]).getD j 0 = (passN w 3 p 3).getD i 0
    have h3 := rows_3 w p (e := m * 3) (by omega) hle2
    have hs := sort3_is w (p.getD (m * 3) 0) (p.getD (m * 3 + 1) 0) (p.getD (m * 3 + 2) 0)
    rw [← h3] at hs
    rw [show sortI (wC w) [p.getD (m * 3) 0, p.getD (m * 3 + 1) 0, p.getD (m * 3 + 2) 0] = _ from hs, hi2]
    rcases (show j = 0 ∨ j = 1 ∨ j = 2 by omega) with e | e | e <;> subst e <;> rfl
def sortR (b r t : Int) (bs : List BoxD) (p : List Int) : List Int := if planB b r t bs p = true then passN (wAt bs) t p t.toNat else []
theorem sortR_le (b r t : Int) (bs : List BoxD) (p : List Int) : (sortR b r t bs p).length ≤ p.length := by
  unfold sortR; split
  · rw [passN_len]; exact Nat.le_refl _
  · simp
theorem PlanOK.rows {b r t : Int} {bs : List BoxD} {p : List Int} (h : PlanOK b r t bs p) : p.length = (b * r).toNat * t.toNat := by
  have h1 := h.len
  have h2 := hv_t h.ship
  have h3 := br_box h.ship
  have : (((b * r).toNat * t.toNat : Nat) : Int) = b * r * t := by
    rw [Int.natCast_mul, Int.toNat_of_nonneg (by omega), Int.toNat_of_nonneg (by omega)]
  omega

end Go.Proofs.Ytpiaeckkjdcifaa
