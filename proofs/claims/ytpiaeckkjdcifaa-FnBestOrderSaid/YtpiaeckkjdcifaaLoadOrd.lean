/- Walks over the order of loading. No condition. -/
import Derived.Test.YtpiaeckkjdcifaaFull
import Derived.Test.YtpiaeckkjdcifaaPlanX
import Derived.Test.YtpiaeckkjdcifaaSortCZ
namespace Go.Proofs.Ytpiaeckkjdcifaa
open Go
set_option linter.unusedVariables false
set_option linter.unusedSimpArgs false

theorem sorted_ext {R : Int → Int → Prop} (hi : ∀ x, ¬ R x x) (ht : ∀ x y z, R x y → R y z → R x z) : ∀ (l m : List Int), l.Pairwise R → m.Pairwise R → (∀ x, x ∈ l ↔ x ∈ m) → l = m
  | [], [], _, _, _ => rfl
  | [], y :: ys, _, _, h => by have := (h y).2 (by simp); simp at this
  | x :: xs, [], _, _, h => by have := (h x).1 (by simp); simp at this
  | x :: xs, y :: ys, h1, h2, h => by
    rw [List.pairwise_cons] at h1 h2
    have e : x = y := by
      rcases List.mem_cons.1 ((h x).1 (by simp)) with h3 | h3
      · exact h3
      · rcases List.mem_cons.1 ((h y).2 (by simp)) with h4 | h4
        · exact h4.symm
        · exact absurd (ht _ _ _ (h1.1 y h4) (h2.1 x h3)) (hi x)
    subst e
    rw [sorted_ext hi ht xs ys h1.2 h2.2 (fun z => ⟨fun hz => ?_, fun hz => ?_⟩)]
    · rcases List.mem_cons.1 ((h z).1 (List.mem_cons_of_mem _ hz)) with h3 | h3
      · subst h3; exact absurd (h1.1 _ hz) (hi _)
      · exact h3
    · rcases List.mem_cons.1 ((h z).2 (List.mem_cons_of_mem _ hz)) with h3 | h3
      · subst h3; exact absurd (h2.1 _ hz) (hi _)
      · exact h3
def lexB (t a b : Int) : Bool := decide (a % t < b % t) || (decide (a % t = b % t) && decide (a < b))
theorem lexB_iff {t a b : Int} : lexB t a b = true ↔ a % t < b % t ∨ (a % t = b % t ∧ a < b) := by simp [lexB]
theorem lexB_not {t a b : Int} : lexB t a b = false ↔ ¬ (a % t < b % t ∨ (a % t = b % t ∧ a < b)) := by rw [← lexB_iff]; simp
theorem lex_swo (t : Int) : Go.Sort.SWO (lexB t) := by
  refine ⟨fun x => ?_, fun x y z h1 h2 => ?_, fun x y z h1 h2 => ?_⟩
  · rw [lexB_not]; omega
  · rw [lexB_iff] at *; omega
  · rw [lexB_not] at *; omega
def tierC (t a b : Int) : Int := a % t - b % t
theorem tier_sorted (t : Int) (xs : List Int) (h : xs.Pairwise (· < ·)) : (sortI (tierC t) xs).Pairwise (fun a b => lexB t a b = true) ∧ ∀ x, x ∈ sortI (tierC t) xs ↔ x ∈ xs := by
  have hget : ∀ k, k < xs.length → xs.toArray[k]! = xs.getD k 0 := by
    intro k hk
    rw [getElem!_pos _ k (by simpa using hk), List.getD_eq_getElem?_getD, List.getElem?_eq_getElem hk]; simp
  have e : Go.Sort.insertionSort (Go.Proofs.ltOf (tierC t)) xs.toArray 0 xs.length = Go.Sort.insertionSort (lexB t) xs.toArray 0 xs.length := by
    unfold Go.Sort.insertionSort
    refine insOuter_same 0 _ _ 1 _ rfl (by simp) (fun p q hpq hq hqs => ?_)
    have hqs : q < xs.length := by simpa using hqs
    rw [hget p (by omega), hget q hqs]
    have hlt : xs.getD p 0 < xs.getD q 0 := by
      have := List.pairwise_iff_getElem.1 h p q (by omega) hqs hpq
      rw [List.getD_eq_getElem?_getD, List.getElem?_eq_getElem (by omega), List.getD_eq_getElem?_getD, List.getElem?_eq_getElem hqs]; exact this
    generalize xs.getD p 0 = x at hlt
    generalize xs.getD q 0 = y at hlt
    unfold Go.Proofs.ltOf tierC
    cases hb : lexB t y x with
    | true => rw [lexB_iff] at hb; rw [decide_eq_true_eq]; omega
    | false => rw [lexB_not] at hb; rw [decide_eq_false_iff_not]; omega
  obtain ⟨hp, hs⟩ := Go.Sort.insertionSort_holds (lex_swo t) xs.toArray 0 xs.length (Nat.zero_le _) (by simp)
  have hsz := hp.1
  have hperm : (sortI (tierC t) xs).Perm xs := by
    unfold sortI
    rw [e]
    have := hp.2.2
    have e1 : (Go.Sort.insertionSort (lexB t) xs.toArray 0 xs.length).extract 0 xs.length = Go.Sort.insertionSort (lexB t) xs.toArray 0 xs.length := by
      have hx : xs.length = (Go.Sort.insertionSort (lexB t) xs.toArray 0 xs.length).size := by rw [hsz]; simp
      generalize Go.Sort.insertionSort (lexB t) xs.toArray 0 xs.length = A at hx ⊢
      rw [hx]; exact Array.extract_size
    have e2 : xs.toArray.extract 0 xs.length = xs.toArray := by
      have hx : xs.length = xs.toArray.size := by simp
      rw [hx]; exact Array.extract_size
    rw [e1, e2] at this
    exact this
  have hnd : (sortI (tierC t) xs).Nodup := hperm.nodup_iff.2 (h.imp (fun h => by omega))
  refine ⟨?_, fun x => hperm.mem_iff⟩
  rw [List.pairwise_iff_getElem]
  intro i j hi hj hij
  have hne := List.pairwise_iff_getElem.1 hnd i j hi hj hij
  have hlen := sortI_len (tierC t) xs
  have hso := hs i j (Nat.zero_le _) hij (by omega)
  have hA : ∀ k (hk : k < (sortI (tierC t) xs).length), (Go.Sort.insertionSort (lexB t) xs.toArray 0 xs.length)[k]! = (sortI (tierC t) xs)[k] := by
    intro k hk
    have hk2 : k < (Go.Sort.insertionSort (lexB t) xs.toArray 0 xs.length).size := by rw [hsz]; simp; omega
    rw [getElem!_pos _ k hk2]
    have : (sortI (tierC t) xs)[k]? = (Go.Sort.insertionSort (lexB t) xs.toArray 0 xs.length).toList[k]? := by unfold sortI; rw [e]
    rw [List.getElem?_eq_getElem hk, Array.getElem?_toList, Array.getElem?_eq_getElem hk2] at this
    exact (Option.some.inj this).symm
  rw [hA i hi, hA j hj] at hso
  rw [lexB_not] at hso
  rw [lexB_iff]
  generalize (sortI (tierC t) xs)[i] = x at *
  generalize (sortI (tierC t) xs)[j] = y at *
  omega
def tP (t : Int) (p : List Int) (n : Nat) (k : Nat) : Bool := fullP p k && decide ((k : Int) % t = n)
def catT (t : Int) (p : List Int) : Nat → List Int
  | 0 => []
  | n + 1 => catT t p n ++ selTo (tP t p n) p.length
theorem catT_mem {t : Int} (ht : 0 < t) {p : List Int} {x : Int} : ∀ n : Nat, x ∈ catT t p n ↔ (∃ k : Nat, k < p.length ∧ (k : Int) = x ∧ fullP p k = true) ∧ x % t < n
  | 0 => by
    have := Int.emod_nonneg x (show t ≠ 0 by omega)
    simp only [catT, List.not_mem_nil, false_iff]
    rintro ⟨_, h⟩
    omega
  | n + 1 => by
    have h0 := Int.emod_nonneg x (show t ≠ 0 by omega)
    rw [catT, List.mem_append, catT_mem ht n, selTo_mem]
    constructor
    · rintro (⟨h1, h2⟩ | ⟨k, hk, rfl, h2⟩)
      · exact ⟨h1, by omega⟩
      · simp only [tP, Bool.and_eq_true, decide_eq_true_eq] at h2
        exact ⟨⟨k, hk, rfl, h2.1⟩, by omega⟩
    · rintro ⟨⟨k, hk, rfl, h2⟩, h3⟩
      by_cases e : (k : Int) % t < n
      · exact .inl ⟨⟨k, hk, rfl, h2⟩, e⟩
      · exact .inr ⟨k, hk, rfl, by simp only [tP, h2, Bool.true_and, decide_eq_true_eq]; omega⟩
theorem selTo_pw (P : Nat → Bool) : ∀ n, (selTo P n).Pairwise (· < ·)
  | 0 => List.Pairwise.nil
  | n + 1 => by
    have ih := selTo_pw P n
    cases h : P n with
    | true =>
      have e : selTo P (n + 1) = selTo P n ++ [(n : Int)] := by
        have := selTo_yes (P := P) (i := (n : Int)) (by omega) (by simpa using h)
        simpa using this
      rw [e, List.pairwise_append]
      refine ⟨ih, List.pairwise_singleton _ _, fun a ha b hb => ?_⟩
      rw [List.mem_singleton] at hb
      obtain ⟨k, hk, rfl, _⟩ := selTo_mem.1 ha
      omega
    | false =>
      have e : selTo P (n + 1) = selTo P n := by
        have := selTo_no (P := P) (i := (n : Int)) (by omega) (by simpa using h)
        simpa using this
      rw [e]; exact ih
theorem catT_pw {t : Int} (ht : 0 < t) (p : List Int) : ∀ n : Nat, (catT t p n).Pairwise (fun a b => lexB t a b = true)
  | 0 => List.Pairwise.nil
  | n + 1 => by
    rw [catT, List.pairwise_append]
    refine ⟨catT_pw ht p n, (List.Pairwise.and_mem.1 (selTo_pw (tP t p n) p.length)).imp (fun {a b} h => ?_), fun a ha b hb => ?_⟩
    · obtain ⟨ha, hb, h⟩ := h
      obtain ⟨k, _, rfl, h1⟩ := selTo_mem.1 ha
      obtain ⟨j, _, rfl, h2⟩ := selTo_mem.1 hb
      simp only [tP, Bool.and_eq_true, decide_eq_true_eq] at h1 h2
      rw [lexB_iff]; right; omega
    · obtain ⟨_, h1⟩ := (catT_mem ht n).1 ha
      obtain ⟨j, _, rfl, h2⟩ := selTo_mem.1 hb
      simp only [tP, Bool.and_eq_true, decide_eq_true_eq] at h2
      rw [lexB_iff]; left; omega
theorem ord_eq {t : Int} (ht : 0 < t) (p : List Int) : catT t p t.toNat = sortI (tierC t) (fullS p) := by
  obtain ⟨h1, h2⟩ := tier_sorted t (fullS p) (selTo_pw _ _)
  refine sorted_ext (R := fun a b => lexB t a b = true) (fun x h => by rw [lexB_iff] at h; omega) (fun x y z a b => (lex_swo t).trans x y z a b) _ _ (catT_pw ht p _) h1 (fun x => ?_)
  rw [h2, catT_mem ht, fullS, selTo_mem]
  have := Int.emod_lt_of_pos x ht
  constructor
  · rintro ⟨h, _⟩; exact h
  · rintro h; exact ⟨h, by omega⟩
theorem selTo_ext {P : Nat → Bool} {n : Nat} : ∀ m, n ≤ m → (∀ k, n ≤ k → k < m → P k = false) → selTo P m = selTo P n
  | 0, h, _ => by have : n = 0 := by omega
                  rw [this]
  | m + 1, h, hf => by
    by_cases e : n = m + 1
    · rw [e]
    · have e2 : selTo P (m + 1) = selTo P m := by
        have := selTo_no (P := P) (i := (m : Int)) (by omega) (by simpa using hf m (by omega) (by omega))
        simpa using this
      rw [e2]
      exact selTo_ext m (by omega) (fun k hk hk2 => hf k hk (by omega))
theorem mod_gap {t q i k : Int} (ht : 0 < t) (hq : q % t = i) (h1 : q < k) (h2 : k < q + t) : k % t ≠ i := by
  intro h
  have h3 : (k - q) % t = 0 := by rw [Int.sub_emod, h, hq, Int.sub_self, Int.zero_emod]
  rw [Int.emod_eq_of_lt (by omega) (by omega)] at h3
  omega
theorem tP_step {t q : Int} {p : List Int} {n : Nat} (ht : 0 < t) (h0 : 0 ≤ q) (hq : q % t = n) (hl : q < p.length) : selTo (tP t p n) (q + t).toNat = if p.getD q.toNat 0 ≠ 0 then selTo (tP t p n) q.toNat ++ [q] else selTo (tP t p n) q.toNat := by
  have h1 : selTo (tP t p n) (q + t).toNat = selTo (tP t p n) (q + 1).toNat := selTo_ext _ (by omega) (fun k hk hk2 => by
    have := mod_gap ht hq (k := (k : Int)) (by omega) (by omega)
    simp only [tP, decide_eq_false this, Bool.and_false])
  rw [h1]
  have e : ((q.toNat : Nat) : Int) = q := by omega
  by_cases hf : p.getD q.toNat 0 ≠ 0
  · rw [if_pos hf, selTo_yes h0 (by simp only [tP, fullP, e, decide_eq_true hf, decide_eq_true hq, Bool.and_self])]
  · rw [if_neg hf, selTo_no h0 (by simp only [tP, fullP, decide_eq_false hf, Bool.false_and])]
theorem tP_start {t : Int} {p : List Int} {n : Nat} (h : (n : Int) < t) : selTo (tP t p n) n = [] := by
  rw [selTo_ext (n := 0) n (Nat.zero_le _) (fun k _ hk => by
    simp only [tP, Int.emod_eq_of_lt (show (0 : Int) ≤ k by omega) (show (k : Int) < t by omega), decide_eq_false (show ¬ (k : Int) = n by omega), Bool.and_false])]
  rfl
theorem tP_end {t q : Int} {p : List Int} {n : Nat} (h : ¬ q < p.length) (h0 : 0 ≤ q) : selTo (tP t p n) q.toNat = selTo (tP t p n) p.length := by
  refine selTo_ext _ (by omega) (fun k hk _ => ?_)
  simp [tP, fullP, List.getD_eq_getElem?_getD, List.getElem?_eq_none hk]
theorem catT_len (t : Int) (p : List Int) : ∀ n : Nat, (catT t p n).length ≤ n * p.length
  | 0 => by simp [catT]
  | n + 1 => by
    have h1 := catT_len t p n
    have h2 := selTo_len (tP t p n) p.length
    rw [catT, List.length_append, Nat.succ_mul]; omega

def ordR (b r t : Int) (bs : List BoxD) (p : List Int) : List Int := if planB b r t bs p = true then catT t p t.toNat else []
theorem full_in {p : List Int} {x : Int} (h : x ∈ fullS p) : (0 ≤ x ∧ x < p.length) ∧ p.getD x.toNat 0 ≠ 0 := by
  obtain ⟨k, hk, rfl, h2⟩ := selTo_mem.1 h
  refine ⟨by omega, ?_⟩
  simp only [fullP, decide_eq_true_eq] at h2
  simpa using h2
theorem pigO : ∀ (a o : List Int), a.Nodup → (∀ x ∈ a, x ∈ o) → a.length ≤ o.length
  | [], _, _, _ => Nat.zero_le _
  | x :: a, o, hn, hs => by
    have hx : x ∈ o := hs x (by simp)
    have hlen := List.length_erase_of_mem hx
    have hrec := pigO a (o.erase x) (List.nodup_cons.1 hn).2 (fun y hy => (List.mem_erase_of_ne (show y ≠ x from fun e => (List.nodup_cons.1 hn).1 (by rw [← e]; exact hy))).2 (hs y (by simp [hy])))
    have hpos := List.length_pos_of_mem hx
    rw [List.length_cons]; omega
theorem full_ten {b r t : Int} {bs : List BoxD} {p : List Int} (h : PlanOK b r t bs p) : (fullS p).length ≤ 10 := by
  have h1 := idsTo_len p p.length
  have h2 := ids_uniq h p.length (Nat.le_refl _)
  have h3 := pigO (idsTo p p.length) (bs.map BoxD.id) h2 (fun x hx => by
    obtain ⟨k, hk, e, hx0⟩ := idsTo_mem.1 hx
    have hb := (h.inb k).resolve_left (by rw [e]; exact hx0)
    have hid := findF_id bs (p.getD k 0) 0 (by omega) hb
    have hlt := findF_lt hb
    rw [e] at hid hlt hb
    have hi : (findF bs x 0 - 0).toNat < bs.length := by omega
    rw [List.mem_map]
    refine ⟨bx bs (findF bs x 0 - 0).toNat, ?_, hid⟩
    rw [bx, List.getD_eq_getElem?_getD, List.getElem?_eq_getElem hi]
    exact List.getElem_mem hi)
  rw [List.length_map] at h3
  have h4 := h.boxes
  simp only [boxesB, Bool.and_eq_true, decide_eq_true_eq] at h4
  have : fullS p = selTo (fullP p) p.length := rfl
  rw [this]
  omega
theorem ordR_len {b r t : Int} {bs : List BoxD} {p : List Int} : (ordR b r t bs p).length ≤ 108 := by
  unfold ordR; split
  · rename_i h
    have hok := planB_ok h
    have hle := hok.le
    have htt := hv_t hok.ship
    have h1 := catT_len t p t.toNat
    have h2 : t.toNat * p.length ≤ 3 * 36 := Nat.mul_le_mul (by omega) (by omega)
    omega
  · simp

def c_impl_LoadOrder_1 : Ctr where
  modes := [.v .p, .v .p, .v .p]
  al := false
  run := fun xs os => match xs, os with
    | [.int x, .int y, .rp [.int b, .int r, .int t]], [] => some ⟨(0 ≤ x ∧ 0 ≤ y) ∧ (0 < t ∧ t ≤ 1000), .int (tierC t x y), [], []⟩
    | _, _ => none
theorem m_impl_LoadOrder_1 : Meets Try.prog 77 c_impl_LoadOrder_1 := by
  refine meets_of (T := tyT) tyOK Try.func77 (by rfl) rfl (by decide) ?_
  intro args owns R hrun hpre
  simp only [c_impl_LoadOrder_1] at hrun
  split at hrun
  case h_2 => cases hrun
  rename_i x y b r t
  cases hrun
  try dsimp only at hpre
  refine ⟨_, rfl, fun E hP hnt hnp => ?_⟩
  replace hnt : E.nt = 13 := hnt
  replace hnp : E.np = 3 := hnp
  have hT : ∀ t d, tyT t = some d → TyOK E.P t d := hP ▸ tyOK
  have hG : ∀ f C, Γof [(78, c_impl_Hull_tier)] f = some C → Meets E.P f C := hΓof (by rw [hP]; exact ⟨m_impl_Hull_tier, trivial⟩)
  try simp only [show Try.f77.ntmps = 13 from rfl]
  have h1 := Int.emod_nonneg x (show t ≠ 0 by omega)
  have h2 := Int.emod_lt_of_pos x (show 0 < t by omega)
  have h3 := Int.emod_nonneg y (show t ≠ 0 by omega)
  have h4 := Int.emod_lt_of_pos y (show 0 < t by omega)
  refine W_seq (fun K1 hK1 => ?_)
  refine W_region hT hG [] [0, 1, 2] ?_
  rw [hnt]
  simp only [baseS, eq_self, implies_true, if_true, if_false, reduceIte, Nat.reduceBEq, Nat.reduceEqDiff, Nat.reduceLT, Nat.reduceAdd, reduceCtorEq, tyInt, tdInt, tyHull, tdHull, c_impl_Hull_tier]
  repeat (refine And.intro ?_ ?_; focus (first | exact ordP (by kernel_rfl) | with_reducible exact rfl | assumption | trivial | (simp only [inR]; omega) | omega | (intro hh; (try obtain ⟨hh1, hh2⟩ := hh); (repeat' apply And.intro) <;> first | assumption | (simp only [inR]; omega) | omega | (intros; (repeat' apply And.intro) <;> first | assumption | (simp only [inR]; omega) | omega)) | (intros; (repeat' apply And.intro) <;> first | assumption | (simp only [inR]; omega) | omega | (simp_all; done) | (simp_all [inR]; omega))))
  refine hK1 _ ?_
  clear hK1
  refine W_seq (fun K2 hK2 => ?_)
  refine W_region_draw hT hG (by rw [hP]; exact draws_ok) [] [5] ?_
  rw [hnt]
  simp only [baseS, eq_self, implies_true, if_true, if_false, reduceIte, Nat.reduceBEq, Nat.reduceEqDiff, Nat.reduceLT, Nat.reduceAdd, reduceCtorEq, tyInt, tdInt, tyHull, tdHull, c_impl_Hull_tier]
  repeat (refine And.intro ?_ ?_; focus (first | exact ordP (by kernel_rfl) | with_reducible exact rfl | assumption | trivial | (simp only [inR]; omega) | omega | (intro hh; (try obtain ⟨hh1, hh2⟩ := hh); (repeat' apply And.intro) <;> first | assumption | (simp only [inR]; omega) | omega | (intros; (repeat' apply And.intro) <;> first | assumption | (simp only [inR]; omega) | omega)) | (intros; (repeat' apply And.intro) <;> first | assumption | (simp only [inR]; omega) | omega | (simp_all; done) | (simp_all [inR]; omega))))
  refine hK2 _ ?_
  clear hK2
  refine W_ret ?_
  simp only [thenQ, blockQ, loopQ, retQ, reduceIte, Nat.reduceEqDiff]
  refine ret0 ?_ rfl rfl (.inr rfl) rfl
  simp only [show Try.f77.results.toList = [ResultVar.tmp 5] from rfl, resAV, resL, look, Nat.reduceEqDiff, reduceIte, tyHull, tdHull, applyUps, noH, isStr, List.length_cons, List.length_nil, Nat.reduceAdd, and_self]
  all_goals (
    rfl)

def c_impl_LoadOrder : Ctr where
  modes := [.v .p, .v (.r .box), .v (.r .i64)]
  al := false
  run := fun xs os => match xs, os with
    | [.agg [.int b, .int r, .int t], .rs .box bs, .rs .i64 p], [] => some ⟨bs.length ≤ 9223372036854775807 ∧ p.length ≤ 9223372036854775807, .sl 0, [.sl 3 .i64 (ordR b r t bs p)], []⟩
    | _, _ => none
theorem m_impl_LoadOrder : Meets Try.prog 35 c_impl_LoadOrder := by
  refine meets_of (T := tyT) tyOK Try.func35 (by rfl) rfl (by decide) ?_
  intro args owns R hrun hpre
  simp only [c_impl_LoadOrder] at hrun
  split at hrun
  case h_2 => cases hrun
  rename_i b r t bs p
  cases hrun
  try dsimp only at hpre
  refine ⟨_, rfl, fun E hP hnt hnp => ?_⟩
  replace hnt : E.nt = 19 := hnt
  replace hnp : E.np = 3 := hnp
  have hT : ∀ t d, tyT t = some d → TyOK E.P t d := hP ▸ tyOK
  have hG : ∀ f C, Γof [(47, c_impl_PlanValid), (75, c_impl_fullSlots)] f = some C → Meets E.P f C := hΓof (by rw [hP]; exact ⟨m_impl_PlanValid, m_impl_fullSlots, trivial⟩)
  try simp only [show Try.f35.ntmps = 19 from rfl]
  have hbs := hpre.1
  have hp := hpre.2
  have hle0 := fun h : planB b r t bs p = true => (planB_ok h).le
  refine W_seq (fun K1 hK1 => ?_)
  refine W_region hT hG [] [1, 2, 3] ?_
  rw [hnt]
  simp only [baseS, eq_self, implies_true, if_true, if_false, reduceIte, Nat.reduceBEq, Nat.reduceEqDiff, Nat.reduceLT, Nat.reduceAdd, reduceCtorEq, tyInts, tdInts, tyHull, tdHull, tyBoxes, tdBoxes, c_impl_PlanValid, c_impl_fullSlots, decide_false, room, Nat.reduceLeDiff, Nat.zero_le, storeAV, rowQ, ownInts, FT.of, FT.setf, elems, appAV_I, appI, srcI, ownI, anyI, sameR, appAV_P, appP, srcP, ownP, anyP]
  repeat (refine And.intro ?_ ?_; focus (first | exact ordP (by kernel_rfl) | with_reducible exact rfl | assumption | trivial | (simp only [inR]; omega) | omega | exact ⟨by omega, by omega⟩ | exact ⟨by omega, by omega, by omega⟩ | ((try simp only [decide_eq_true_eq, Bool.and_eq_true, ne_eq, decide_not, Bool.not_eq_true', Bool.not_eq_false', Bool.or_eq_false_iff, Bool.not_not, decide_eq_false_iff_not]); (try intro hh); (repeat' apply And.intro) <;> (first | omega | (simp only [inR]; omega) | assumption | exact hh.1 | exact hh.2 | exact hh.2.1 | exact hh.2.2 | exact hh.1.1 | exact hh.1.2 | (intro hq; exact ⟨hh, hq⟩) | (intro hq; exact ⟨hh.1, hq⟩) | (simp_all; done)))))
  refine hK1 _ ?_
  clear hK1
  refine W_seq (fun K2 hK2 => ?_)
  refine W_seq (fun K3 hK3 => ?_)
  refine W_region hT hG [] [2, 3, 12] ?_
  rw [hnt]
  simp only [baseS, eq_self, implies_true, if_true, if_false, reduceIte, Nat.reduceBEq, Nat.reduceEqDiff, Nat.reduceLT, Nat.reduceAdd, reduceCtorEq, tyInts, tdInts, tyHull, tdHull, tyBoxes, tdBoxes, c_impl_PlanValid, c_impl_fullSlots, decide_false, room, Nat.reduceLeDiff, Nat.zero_le, storeAV, rowQ, ownInts, FT.of, FT.setf, elems, appAV_I, appI, srcI, ownI, anyI, sameR, appAV_P, appP, srcP, ownP, anyP]
  repeat (refine And.intro ?_ ?_; focus (first | exact ordP (by kernel_rfl) | with_reducible exact rfl | assumption | trivial | (simp only [inR]; omega) | omega | exact ⟨by omega, by omega⟩ | exact ⟨by omega, by omega, by omega⟩ | ((try simp only [decide_eq_true_eq, Bool.and_eq_true, ne_eq, decide_not, Bool.not_eq_true', Bool.not_eq_false', Bool.or_eq_false_iff, Bool.not_not, decide_eq_false_iff_not]); (try intro hh); (repeat' apply And.intro) <;> (first | omega | (simp only [inR]; omega) | assumption | exact hh.1 | exact hh.2 | exact hh.2.1 | exact hh.2.2 | exact hh.1.1 | exact hh.1.2 | (intro hq; exact ⟨hh, hq⟩) | (intro hq; exact ⟨hh.1, hq⟩) | (simp_all; done)))))
  refine hK3 _ ?_
  clear hK3
  refine W_cond (b := _) rfl (fun hc4 => ?_) (fun hc4 => ?_)
  · try simp only [decide_eq_true_eq, decide_eq_false_iff_not, ne_eq, Decidable.not_not, Bool.not_eq_true', Bool.not_eq_false', Bool.or_eq_true, Bool.and_eq_true, Bool.or_eq_false_iff, Bool.and_eq_false_iff] at hc4
    refine W_seq (fun K5 hK5 => ?_)
    refine W_region hT hG [] [6] ?_
    rw [hnt]
    simp only [baseS, eq_self, implies_true, if_true, if_false, reduceIte, Nat.reduceBEq, Nat.reduceEqDiff, Nat.reduceLT, Nat.reduceAdd, reduceCtorEq, tyInts, tdInts, tyHull, tdHull, tyBoxes, tdBoxes, c_impl_PlanValid, c_impl_fullSlots, decide_false, room, Nat.reduceLeDiff, Nat.zero_le, storeAV, rowQ, ownInts, FT.of, FT.setf, elems, appAV_I, appI, srcI, ownI, anyI, sameR, appAV_P, appP, srcP, ownP, anyP]
    repeat (refine And.intro ?_ ?_; focus (first | exact ordP (by kernel_rfl) | with_reducible exact rfl | assumption | trivial | (simp only [inR]; omega) | omega | exact ⟨by omega, by omega⟩ | exact ⟨by omega, by omega, by omega⟩ | ((try simp only [decide_eq_true_eq, Bool.and_eq_true, ne_eq, decide_not, Bool.not_eq_true', Bool.not_eq_false', Bool.or_eq_false_iff, Bool.not_not, decide_eq_false_iff_not]); (try intro hh); (repeat' apply And.intro) <;> (first | omega | (simp only [inR]; omega) | assumption | exact hh.1 | exact hh.2 | exact hh.2.1 | exact hh.2.2 | exact hh.1.1 | exact hh.1.2 | (intro hq; exact ⟨hh, hq⟩) | (intro hq; exact ⟨hh.1, hq⟩) | (simp_all; done)))))
    refine hK5 _ ?_
    clear hK5
    refine W_re [(6, .own 3 .i64)] (by (try simp only [hnt, hnp]); rfl) ?_
    refine W_ret ?_
    simp only [thenQ, blockQ, loopQ, retQ, reduceIte, Nat.reduceEqDiff]
    refine ret1s 6 rfl rfl rfl ?_
    all_goals (
      first | (rw [ordR, if_pos hc4, ord_eq (by omega)]; done) | (rw [ordR, hc4]; rfl))
  · try simp only [decide_eq_true_eq, decide_eq_false_iff_not, ne_eq, Decidable.not_not, Bool.not_eq_true', Bool.not_eq_false', Bool.or_eq_true, Bool.and_eq_true, Bool.or_eq_false_iff, Bool.and_eq_false_iff] at hc4
    refine W_skip ?_
    simp only [thenQ, blockQ, loopQ, reduceIte, Nat.reduceEqDiff]
    refine hK2 _ ?_
    clear hK2
    refine W_seq (fun K6 hK6 => ?_)
    refine W_region hT hG [] [3, 7] ?_
    rw [hnt]
    have hl36 := hle0 hc4
    simp only [baseS, eq_self, implies_true, if_true, if_false, reduceIte, Nat.reduceBEq, Nat.reduceEqDiff, Nat.reduceLT, Nat.reduceAdd, reduceCtorEq, tyInts, tdInts, tyHull, tdHull, tyBoxes, tdBoxes, c_impl_PlanValid, c_impl_fullSlots, decide_false, room, Nat.reduceLeDiff, Nat.zero_le, storeAV, rowQ, ownInts, FT.of, FT.setf, elems, appAV_I, appI, srcI, ownI, anyI, sameR, appAV_P, appP, srcP, ownP, anyP]
    repeat (refine And.intro ?_ ?_; focus (first | exact ordP (by kernel_rfl) | with_reducible exact rfl | assumption | trivial | (simp only [inR]; omega) | omega | exact ⟨by omega, by omega⟩ | exact ⟨by omega, by omega, by omega⟩ | ((try simp only [decide_eq_true_eq, Bool.and_eq_true, ne_eq, decide_not, Bool.not_eq_true', Bool.not_eq_false', Bool.or_eq_false_iff, Bool.not_not, decide_eq_false_iff_not]); (try intro hh); (repeat' apply And.intro) <;> (first | omega | (simp only [inR]; omega) | assumption | exact hh.1 | exact hh.2 | exact hh.2.1 | exact hh.2.2 | exact hh.1.1 | exact hh.1.2 | (intro hq; exact ⟨hh, hq⟩) | (intro hq; exact ⟨hh.1, hq⟩) | (simp_all; done)))))
    refine hK6 _ ?_
    clear hK6
    refine W_seq (fun K7 hK7 => ?_)
    refine W_region_mid 2 1 hT hG [] [] [7] ?_
    rw [hnt]
    simp only [baseS, eq_self, implies_true, if_true, if_false, reduceIte, Nat.reduceBEq, Nat.reduceEqDiff, Nat.reduceLT, Nat.reduceAdd, reduceCtorEq, tyInts, tdInts, tyHull, tdHull, tyBoxes, tdBoxes, c_impl_PlanValid, c_impl_fullSlots, decide_false, room, Nat.reduceLeDiff, Nat.zero_le, storeAV, rowQ, ownInts, FT.of, FT.setf, elems, appAV_I, appI, srcI, ownI, anyI, sameR, appAV_P, appP, srcP, ownP, anyP, List.take_succ_cons, List.take_zero, List.drop_succ_cons, List.drop_zero, List.take_nil, List.drop_nil]
    repeat (refine And.intro ?_ ?_; focus (first | exact ordP (by kernel_rfl) | with_reducible exact rfl | assumption | trivial | (simp only [inR]; omega) | omega | exact ⟨by omega, by omega⟩ | exact ⟨by omega, by omega, by omega⟩ | ((try simp only [decide_eq_true_eq, Bool.and_eq_true, ne_eq, decide_not, Bool.not_eq_true', Bool.not_eq_false', Bool.or_eq_false_iff, Bool.not_not, decide_eq_false_iff_not]); (try intro hh); (repeat' apply And.intro) <;> (first | omega | (simp only [inR]; omega) | assumption | exact hh.1 | exact hh.2 | exact hh.2.1 | exact hh.2.2 | exact hh.1.1 | exact hh.1.2 | (intro hq; exact ⟨hh, hq⟩) | (intro hq; exact ⟨hh.1, hq⟩) | (simp_all; done)))))
    have hok := planB_ok hc4
    have hle := hok.le
    have htt := hv_t hok.ship
    have hfl := full_ten hok
    have hMd : Meets Try.prog 77 c_impl_LoadOrder_1 := m_impl_LoadOrder_1
    refine Mid.intro (hol_sort hP (p := fun x => 0 ≤ x) (tierC t) rfl rfl rfl rfl rfl (by rw [hnt]; decide) rfl rfl rfl hMd rfl rfl rfl (Int.le_refl 0) (fun x y h1 h2 => ⟨_, rfl, ⟨h1, h2⟩, by omega⟩) (enters_of Try.func77 (by kernel_rfl) rfl) (by omega) (fun x hx => (full_in hx).1.1)) ?_
    try rw [hnt]
    simp only [Mid2, baseS, eq_self, implies_true, if_true, if_false, reduceIte, Nat.reduceBEq, Nat.reduceEqDiff, Nat.reduceLT, Nat.reduceAdd, reduceCtorEq, tyInts, tdInts, tyHull, tdHull, tyBoxes, tdBoxes, c_impl_PlanValid, c_impl_fullSlots, decide_false, room, Nat.reduceLeDiff, Nat.zero_le, storeAV, rowQ, ownInts, FT.of, FT.setf, elems, appAV_I, appI, srcI, ownI, anyI, sameR, appAV_P, appP, srcP, ownP, anyP, List.take_succ_cons, List.take_zero, List.drop_succ_cons, List.drop_zero, List.take_nil, List.drop_nil]
    repeat (refine And.intro ?_ ?_; focus (first | exact ordP (by kernel_rfl) | with_reducible exact rfl | assumption | trivial | (simp only [inR]; omega) | omega | exact ⟨by omega, by omega⟩ | exact ⟨by omega, by omega, by omega⟩ | ((try simp only [decide_eq_true_eq, Bool.and_eq_true, ne_eq, decide_not, Bool.not_eq_true', Bool.not_eq_false', Bool.or_eq_false_iff, Bool.not_not, decide_eq_false_iff_not]); (try intro hh); (repeat' apply And.intro) <;> (first | omega | (simp only [inR]; omega) | assumption | exact hh.1 | exact hh.2 | exact hh.2.1 | exact hh.2.2 | exact hh.1.1 | exact hh.1.2 | (intro hq; exact ⟨hh, hq⟩) | (intro hq; exact ⟨hh.1, hq⟩) | (simp_all; done)))))
    refine hK7 _ ?_
    clear hK7
    refine W_seq (fun K8 hK8 => ?_)
    refine W_region hT hG [] [6] ?_
    rw [hnt]
    simp only [baseS, eq_self, implies_true, if_true, if_false, reduceIte, Nat.reduceBEq, Nat.reduceEqDiff, Nat.reduceLT, Nat.reduceAdd, reduceCtorEq, tyInts, tdInts, tyHull, tdHull, tyBoxes, tdBoxes, c_impl_PlanValid, c_impl_fullSlots, decide_false, room, Nat.reduceLeDiff, Nat.zero_le, storeAV, rowQ, ownInts, FT.of, FT.setf, elems, appAV_I, appI, srcI, ownI, anyI, sameR, appAV_P, appP, srcP, ownP, anyP]
    repeat (refine And.intro ?_ ?_; focus (first | exact ordP (by kernel_rfl) | with_reducible exact rfl | assumption | trivial | (simp only [inR]; omega) | omega | exact ⟨by omega, by omega⟩ | exact ⟨by omega, by omega, by omega⟩ | ((try simp only [decide_eq_true_eq, Bool.and_eq_true, ne_eq, decide_not, Bool.not_eq_true', Bool.not_eq_false', Bool.or_eq_false_iff, Bool.not_not, decide_eq_false_iff_not]); (try intro hh); (repeat' apply And.intro) <;> (first | omega | (simp only [inR]; omega) | assumption | exact hh.1 | exact hh.2 | exact hh.2.1 | exact hh.2.2 | exact hh.1.1 | exact hh.1.2 | (intro hq; exact ⟨hh, hq⟩) | (intro hq; exact ⟨hh.1, hq⟩) | (simp_all; done)))))
    refine hK8 _ ?_
    clear hK8
    refine W_re [(6, .own 3 .i64)] (by (try simp only [hnt, hnp]); rfl) ?_
    refine W_ret ?_
    simp only [thenQ, blockQ, loopQ, retQ, reduceIte, Nat.reduceEqDiff]
    refine ret1s 6 rfl rfl rfl ?_
    all_goals (
      first | (rw [ordR, if_pos hc4, ord_eq (by omega)]; done) | (rw [ordR, hc4]; rfl))

end Go.Proofs.Ytpiaeckkjdcifaa
