/- The stable sort of at most nineteen numbers by a closure. Condition: the closure's contract. -/
import Derived.Shelf.SlSortCmp.Insertion1
import Derived.Test.YtpiaeckkjdcifaaCoreR
import Derived.Test.YtpiaeckkjdcifaaWalk
namespace Go.Proofs.Ytpiaeckkjdcifaa
set_option linter.unusedVariables false
set_option linter.unusedSimpArgs false
set_option linter.unusedSectionVars false
open Go

section
variable {α : Type} [Inhabited α] {lt lt' : α → α → Bool}
theorem swp_at (d : Array α) (j p : Nat) (hj : j + 1 < d.size) : (Go.Sort.swp d (j + 1) j)[p]! = if p = j then d[j + 1]! else if p = j + 1 then d[j]! else d[p]! := by
  unfold Go.Sort.swp
  by_cases h1 : p = j
  · subst h1; rw [if_pos rfl, Go.Sort.getElem!_set_same _ _ _ (by rw [Array.size_setIfInBounds]; omega)]
  · rw [if_neg h1, Go.Sort.getElem!_set_other _ _ _ _ h1]
    by_cases h2 : p = j + 1
    · subst h2; rw [if_pos rfl, Go.Sort.getElem!_set_same _ _ _ hj]
    · rw [if_neg h2, Go.Sort.getElem!_set_other _ _ _ _ h2]
theorem insInner_same (a : Nat) : ∀ (j : Nat) (d : Array α), j < d.size → (∀ p, p < j → lt d[j]! d[p]! = lt' d[j]! d[p]!) → Go.Sort.insInner lt a j d = Go.Sort.insInner lt' a j d
  | 0, d, _, _ => rfl
  | j + 1, d, hj, h => by
    simp only [Go.Sort.insInner]
    rw [h j (by omega)]
    split
    · refine insInner_same a j _ (by rw [Go.Sort.size_swp]; omega) (fun p hp => ?_)
      rw [swp_at d j j hj, swp_at d j p hj, if_pos rfl, if_neg (by omega), if_neg (by omega)]
      exact h p (by omega)
    · rfl
theorem insInner_at (a : Nat) : ∀ (j : Nat) (d : Array α), j < d.size → (Go.Sort.insInner lt a j d).size = d.size ∧ (∀ p, p ≤ j → ∃ q, q ≤ j ∧ (Go.Sort.insInner lt a j d)[p]! = d[q]!) ∧ ∀ p, j < p → (Go.Sort.insInner lt a j d)[p]! = d[p]!
  | 0, d, _ => ⟨rfl, fun p hp => ⟨p, hp, rfl⟩, fun p _ => rfl⟩
  | j + 1, d, hj => by
    simp only [Go.Sort.insInner]
    split
    · obtain ⟨h1, h2, h3⟩ := insInner_at a j (Go.Sort.swp d (j + 1) j) (by rw [Go.Sort.size_swp]; omega)
      refine ⟨by rw [h1, Go.Sort.size_swp], fun p hp => ?_, fun p hp => ?_⟩
      · by_cases e : p ≤ j
        · obtain ⟨q, hq, hq2⟩ := h2 p e
          rw [swp_at d j q hj] at hq2
          by_cases e2 : q = j
          · rw [if_pos e2] at hq2; exact ⟨j + 1, by omega, hq2⟩
          · rw [if_neg e2, if_neg (by omega)] at hq2; exact ⟨q, by omega, hq2⟩
        · have : p = j + 1 := by omega
          subst this
          rw [h3 _ (by omega), swp_at d j _ hj, if_neg (by omega), if_pos rfl]
          exact ⟨j, by omega, rfl⟩
      · rw [h3 p (by omega), swp_at d j p hj, if_neg (by omega), if_neg (by omega)]
    · exact ⟨rfl, fun p hp => ⟨p, hp, rfl⟩, fun p _ => rfl⟩
theorem insOuter_same (a b : Nat) : ∀ (n i : Nat) (d : Array α), b - i = n → b ≤ d.size → (∀ p q, p < q → i ≤ q → q < d.size → lt d[q]! d[p]! = lt' d[q]! d[p]!) → Go.Sort.insOuter lt a b i d = Go.Sort.insOuter lt' a b i d := by
  intro n
  induction n with
  | zero =>
    intro i d hn hb h
    rw [Go.Proofs.insOuter_stop _ _ _ _ _ (by omega), Go.Proofs.insOuter_stop _ _ _ _ _ (by omega)]
  | succ n ih =>
    intro i d hn hb h
    have hi : i < b := by omega
    rw [Go.Proofs.insOuter_go _ _ _ _ _ hi, Go.Proofs.insOuter_go _ _ _ _ _ hi]
    rw [insInner_same (lt' := lt') a i d (by omega) (fun p hp => h p i hp (Nat.le_refl _) (by omega))]
    obtain ⟨h1, h2, h3⟩ := insInner_at (lt := lt') a i d (by omega)
    refine ih (i + 1) _ (by omega) (by omega) (fun p q hpq hq hqs => ?_)
    rw [h3 q (by omega)]
    by_cases hp : p ≤ i
    · obtain ⟨p', hp', e⟩ := h2 p hp
      rw [e]
      exact h p' q (by omega) (by omega) (by omega)
    · rw [h3 p (by omega)]
      exact h p q hpq (by omega) (by omega)
end
section
variable {α β : Type} [Inhabited α] [Inhabited β] {lt : α → α → Bool} {lt' : β → β → Bool} {f : α → β}
theorem map_get (hf : f default = default) (d : Array α) (j : Nat) : (d.map f)[j]! = f d[j]! := by
  by_cases h : j < d.size
  · rw [getElem!_pos _ j (by simpa using h), getElem!_pos d j h, Array.getElem_map]
  · rw [getElem!_neg _ j (by simpa using h), getElem!_neg d j h, hf]
theorem map_set (d : Array α) (j : Nat) (x : α) : (d.setIfInBounds j x).map f = (d.map f).setIfInBounds j (f x) := by
  apply Array.ext_getElem?
  intro k
  simp only [Array.getElem?_map, Array.getElem?_setIfInBounds, Array.size_map]
  split
  · split <;> simp
  · rfl
theorem swp_map (hf : f default = default) (d : Array α) (i j : Nat) : (Go.Sort.swp d i j).map f = Go.Sort.swp (d.map f) i j := by
  unfold Go.Sort.swp
  rw [map_set, map_set, map_get hf, map_get hf]
theorem insInner_map (hf : f default = default) (hl : ∀ x y, lt' (f x) (f y) = lt x y) (a : Nat) : ∀ (j : Nat) (d : Array α), (Go.Sort.insInner lt a j d).map f = Go.Sort.insInner lt' a j (d.map f)
  | 0, d => rfl
  | j + 1, d => by
    simp only [Go.Sort.insInner]
    rw [map_get hf, map_get hf, hl]
    split
    · rw [insInner_map hf hl a j, swp_map hf]
    · rfl
theorem insOuter_map (hf : f default = default) (hl : ∀ x y, lt' (f x) (f y) = lt x y) (a b : Nat) : ∀ (n i : Nat) (d : Array α), b - i = n → (Go.Sort.insOuter lt a b i d).map f = Go.Sort.insOuter lt' a b i (d.map f) := by
  intro n
  induction n with
  | zero => intro i d hn; rw [Go.Proofs.insOuter_stop _ _ _ _ _ (by omega), Go.Proofs.insOuter_stop _ _ _ _ _ (by omega)]
  | succ n ih =>
    intro i d hn
    rw [Go.Proofs.insOuter_go lt a b i d (by omega), Go.Proofs.insOuter_go lt' a b i _ (by omega), ih (i + 1) _ (by omega), insInner_map hf hl]
end
/-- The stable sort of at most twenty numbers. -/
def sortI (c : Int → Int → Int) (xs : List Int) : List Int := (Go.Sort.insertionSort (Go.Proofs.ltOf c) xs.toArray 0 xs.length).toList
theorem sortI_map {p : Int → Prop} (h0 : p 0) (c : Int → Int → Int) (d : Array {x : Int // p x}) : letI : Inhabited {x : Int // p x} := ⟨⟨0, h0⟩⟩
    (Go.Sort.insertionSort (Go.Proofs.ltOf fun x y => c x.1 y.1) d 0 d.size).toList.map (·.1) = sortI c (d.toList.map (·.1)) := by
  letI : Inhabited {x : Int // p x} := ⟨⟨0, h0⟩⟩
  have h := insOuter_map (f := fun x : {x : Int // p x} => x.1) (lt := Go.Proofs.ltOf fun x y : {x : Int // p x} => c x.1 y.1) (lt' := Go.Proofs.ltOf c) rfl (fun x y => rfl) 0 d.size _ 1 d rfl
  unfold sortI Go.Sort.insertionSort
  rw [← Array.toList_map, h]
  have e : (d.toList.map (·.1)).toArray = d.map (fun x => x.1) := by apply Array.ext'; simp only [Array.toList_map]
  rw [e, List.length_map, Array.length_toList]
theorem sortI_len (c : Int → Int → Int) (xs : List Int) : (sortI c xs).length = xs.length := by
  have key : ∀ (n i : Nat) (d : Array Int), d.size - i = n → (Go.Sort.insOuter (Go.Proofs.ltOf c) 0 d.size i d).size = d.size := by
    intro n
    induction n with
    | zero => intro i d hn; rw [Go.Proofs.insOuter_stop _ _ _ _ _ (by omega)]
    | succ n ih =>
      intro i d hn
      rw [Go.Proofs.insOuter_go _ _ _ _ _ (by omega)]
      obtain ⟨h1, _, _⟩ := insInner_at (lt := Go.Proofs.ltOf c) 0 i d (by omega)
      have := ih (i + 1) (Go.Sort.insInner (Go.Proofs.ltOf c) 0 i d) (by omega)
      rw [h1] at this
      exact this
  have := key _ 1 xs.toArray rfl
  unfold sortI Go.Sort.insertionSort
  simpa using this

open Go.Shelf
def laysSlF20_f145_ren : Go.Shelf.Ren := ⟨fun | 20 => 145 | n => n, fun | 24 => 3 | 22 => 24 | 3 => 3 | 25 => 85 | 4 => 4 | 0 => 0 | n => n, fun | n => n⟩
theorem laysSlF20_f145 : Go.Proofs.SlLaysF.n20 Try.prog laysSlF20_f145_ren := {
  mixed := by kernel_rfl
  f20 := ⟨Try.f145.name, by decide, Try.func145.trans (congrArg some (by kernel_rfl))⟩
  t0 := Try.underlying0
  a0 := Try.isAgg0
  z0 := Try.sizeOf0
  v0 := Try.zeroValue0
  t3 := Try.underlying3
  a3 := Try.isAgg3
  z3 := Try.sizeOf3
  v3 := Try.zeroValue3
  t4 := Try.underlying4
  a4 := Try.isAgg4
  z4 := Try.sizeOf4
  v4 := Try.zeroValue4
  t22 := Try.underlying24
  a22 := Try.isAgg24
  z22 := Try.sizeOf24
  v22 := Try.zeroValue24
  a24 := Try.isAgg3
  z24 := Try.sizeOf3
  t25 := Try.underlying85
  a25 := Try.isAgg85
  z25 := Try.sizeOf85
  v25 := Try.zeroValue85 }
open Go.RowKit Go.Lib Go.Sort in
/-- slices.insertionSortCmpFunc at elements of one cell: from a world of the sort's to a world of the sort's. (LAID AT THE INSTANCE 'slices.insertionSortCmpFunc[int]': no walk: one application.) -/
theorem insertionSortCmpFunc_s {α : Type} [Inhabited α] (enc : α → Value) (cf : α → α → Int) (g : Nat) (cb : Array Value) (blk off cap a b : Nat) (d0 d : Array α) (w0 w : World) (eg : ∀ args w, (callFunc g args).run Try.prog w = .ok (.enter g args) w) (hcmp : CmpLays1 Try.prog g cb enc cf blk off d0.size w0) (R : Row1 enc w0 blk off d0) (hs : d0.size = d.size) (S : SW enc w0 blk off d w) (hab : a ≤ b) (hb : b ≤ d.size) (hsz : d.size < 4611686018427387904) :
    Calls Try.prog 145 #[.slice (some ⟨blk, off, none⟩) d.size cap, .int .i64 a, .int .i64 b, .func (.func g) #[] cb] w fun e w' => e = .returned (.tuple #[]) ∧ SW enc w0 blk off (Sort.insertionSort (ltOf cf) d a b) w' := Any.insertionSortCmpFunc_s laysSlF20_f145 enc cf g cb blk off cap a b d0 d w0 w eg hcmp R hs S hab hb hsz

open Go.RowKit Go.Lib Go.Sort in
theorem stable_cmp {α : Type} [Inhabited α] (enc : α → Value) (cf : α → α → Int) (g : Nat) (cb : Array Value) (blk off cap : Nat) (d : Array α) (w : World) (eg : ∀ args w, (callFunc g args).run Try.prog w = .ok (.enter g args) w) (hcmp : CmpLays1 Try.prog g cb enc cf blk off d.size w) (R : Row1 enc w blk off d) (hn : d.size ≤ 19) :
    Calls Try.prog 116 #[.slice (some ⟨blk, off, none⟩) d.size cap, .int .i64 d.size, .func (.func g) #[] cb] w fun e w' => e = .returned (.tuple #[]) ∧ SW enc w blk off (Sort.insertionSort (ltOf cf) d 0 d.size) w' := by
  have S0 : SW enc w blk off d w := by
    refine ⟨0, #[], ?_⟩
    unfold sortWorld
    rw [grow_empty]
    exact (putRow_self _ _ _ _ _ R.hH).symm
  have hcon := insertionSortCmpFunc_s enc cf g cb blk off cap 0 d.size d d w w eg hcmp R rfl S0 (Nat.zero_le _) (Nat.le_refl _) (by omega)
  clear S0 R hcmp
  generalize Sort.insertionSort (ltOf cf) d 0 d.size = r at hcon ⊢
  go_enter Try.func116, Try.ntmps116
  have h19 : (d.size : Int) ≤ 19 := by omega
  go_wp2
  go_loopg [7, 8] 0 (fun g1 v7 v8 wr => v7 = .int .i64 0 ∧ v8 = .int .i64 20 ∧ wr = w)
  case atStart => exact ⟨rfl, rfl, rfl⟩
  case round =>
    obtain ⟨rfl, rfl, rfl⟩ := hrel
    have hle : ¬ (20 : Int) ≤ (d.size : Int) := by omega
    go_wp2_with (go_at_call 145; refine hcon.mono ?_; rintro e w' ⟨rfl, hw'⟩)
    have HW : Go.Aside (SW enc wr blk off r w') := hw'
    clear hw' hcon
    go_loopg [6, 7, 8] 0 (fun g1 v6 v7 v8 wr2 => v6 = .int .i64 20 ∧ wr2 = w')
    case atStart => exact ⟨rfl, rfl⟩
    case round =>
      obtain ⟨rfl, rfl⟩ := hrel
      have hlt : ¬ (20 : Int) < (d.size : Int) := by omega
      go_wp2
      go_end0
      exact ⟨rfl, HW.out⟩
open Go.RowKit Go.Lib Go.Sort in
theorem stable_fn {α : Type} [Inhabited α] (enc : α → Value) (cf : α → α → Int) (g : Nat) (cb : Array Value) (blk off cap : Nat) (d : Array α) (w : World) (eg : ∀ args w, (callFunc g args).run Try.prog w = .ok (.enter g args) w) (hcmp : CmpLays1 Try.prog g cb enc cf blk off d.size w) (R : Row1 enc w blk off d) (hn : d.size ≤ 19) :
    Calls Try.prog 76 #[.slice (some ⟨blk, off, none⟩) d.size cap, .func (.func g) #[] cb] w fun e w' => e = .returned (.tuple #[]) ∧ SW enc w blk off (Sort.insertionSort (ltOf cf) d 0 d.size) w' := by
  have hcon := stable_cmp enc cf g cb blk off cap d w eg hcmp R hn
  clear R hcmp
  generalize Sort.insertionSort (ltOf cf) d 0 d.size = r at hcon ⊢
  go_enter Try.func76, Try.ntmps76
  go_wp2_with (go_at_call 116; refine hcon.mono ?_; rintro e w' ⟨rfl, hw'⟩)
  go_end0
  exact ⟨rfl, hw'⟩
end Go.Proofs.Ytpiaeckkjdcifaa
