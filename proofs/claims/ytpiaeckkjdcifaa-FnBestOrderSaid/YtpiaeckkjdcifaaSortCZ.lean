/- The stable sort of at most nineteen numbers by a closure. Condition: the closure's contract. -/
import Derived.Shelf.SlSortCmp.Insertion1
import Derived.Test.YtpiaeckkjdcifaaCoreR
import Derived.Test.YtpiaeckkjdcifaaWalk
namespace Go.Proofs.Ytpiaeckkjdcifaa
set_option linter.unusedVariables false
set_option linter.unusedSimpArgs false
set_option linter.unusedSectionVars false
open Go

section
variable {α : Type} [Inhabited α] {lt lt' : α → α → Bool}
theorem swp_at (d : Array α) (j p : Nat) (hj : j + 1 < d.size) : (Go.Sort.swp d (j + 1) j)[p]! = if p = j then d[j + 1]! else if p = j + 1 then d[j]! else d[p]! := by
  unfold Go.Sort.swp
  by_cases h1 : p = j
  · subst h1; rw [if_pos rfl, Go.Sort.getElem!_set_same _ _ _ (by rw [Array.size_setIfInBounds]; omega)]
  · rw [if_neg h1, Go.Sort.getElem!_set_other _ _ _ _ h1]
    by_cases h2 : p = j + 1
    · subst h2; rw [if_pos rfl, Go.Sort.getElem!_set_same _ _ _ hj]
    · rw [if_neg h2, Go.Sort.getElem!_set_other _ _ _ _ h2]
theorem insInner_same (a : Nat) : ∀ (j : Nat) (d : Array α), j < d.size → (∀ p, p < j → lt d[j]! d[p]! = lt' d[j]! d[p]!) → Go.Sort.insInner lt a j d = Go.Sort.insInner lt' a j d
  | 0, d, _, _ => rfl
  | j + 1, d, hj, h => by
    simp only [Go.Sort.insInner]
    rw [h j (by omega)]
    split
    · refine insInner_same a j _ (by rw [Go.Sort.size_swp]; omega) (fun p hp => ?_)
      rw [swp_at d j j hj, swp_at d j p hj, if_pos rfl, if_neg (by omega), if_neg (by omega)]
      exact h p (by omega)
    · rfl
theorem insInner_at (a : Nat) : ∀ (j : Nat) (d : Array α), j < d.size → (Go.Sort.insInner lt a j d).size = d.size ∧ (∀ p, p ≤ j → ∃ q, q ≤ j ∧ (Go.Sort.insInner lt a j d)[p]! = d[q]!) ∧ ∀ p, j < p → (Go.Sort.insInner lt a j d)[p]! = d[p]!
  | 0, d, _ => ⟨rfl, fun p hp => ⟨p, hp, rfl⟩, fun p _ => rfl⟩
  | j + 1, d, hj => by
    simp only [Go.Sort.insInner]
    split
    · obtain ⟨h1, h2, h3⟩ := insInner_at a j (Go.Sort.swp d (j + 1) j) (by rw [Go.Sort.size_swp]; omega)
      refine ⟨by rw [h1, Go.Sort.size_swp], fun p hp => ?_, fun p hp => ?_⟩
      · by_cases e : p ≤ j
        · obtain ⟨q, hq, hq2⟩ := h2 p e
          rw [swp_at d j q hj] at hq2
          by_cases e2 : q = j
          · rw [if_pos e2] at hq2; exact ⟨j + 1, by omega, hq2⟩
          · rw [if_neg e2, if_neg (by omega)] at hq2; exact ⟨q, by omega, hq2⟩
        · have : p = j + 1 := by omega
          subst this
          rw [h3 _ (by omega), swp_at d j _ hj, if_neg (by omega), if_pos rfl]
          exact ⟨j, by omega, rfl⟩
      · rw [h3 p (by omega), swp_at d j p hj, if_neg (by omega), if_neg (by omega)]
    · exact ⟨rfl, fun p hp => ⟨p, hp, rfl⟩, fun p _ => rfl⟩
theorem insOuter_same (a b : Nat) : ∀ (n i : Nat) (d : Array α), b - i = n → b ≤ d.size → (∀ p q, p < q → i ≤ q → q < d.size → lt d[q]! d[p]! = lt' d[q]! d[p]!) → Go.Sort.insOuter lt a b i d = Go.Sort.insOuter lt' a b i d := by
  intro n
  induction n with
  | zero =>
    intro i d hn hb h
    rw [Go.Proofs.insOuter_stop _ _ _ _ _ (by omega), Go.Proofs.insOuter_stop _ _ _ _ _ (by omega)]
  | succ n ih =>
    intro i d hn hb h
    have hi : i < b := by omega
    rw [Go.Proofs.insOuter_go _ _ _ _ _ hi, Go.Proofs.insOuter_go _ _ _ _ _ hi]
    rw [insInner_same (lt' := lt') a i d (by omega) (fun p hp => h p i hp (Nat.le_refl _) (by omega))]
    obtain ⟨h1, h2, h3⟩ := insInner_at (lt := lt') a i d (by omega)
    refine ih (i + 1) _ (by omega) (by omega) (fun p q hpq hq hqs => ?_)
    rw [h3 q (by omega)]
    by_cases hp : p ≤ i
    · obtain ⟨p', hp', e⟩ := h2 p hp
      rw [e]
      exact h p' q (by omega) (by omega) (by omega)
    · rw [h3 p (by omega)]
      exact h p q hpq (by omega) (by omega)
end
section
variable {α β : Type} [Inhabited α] [Inhabited β] {lt : α → α → Bool} {lt' : β → β → Bool} {f : α → β}
theorem map_get (hf : f default = default) (d : Array α) (j : Nat) : (d.map f)[j]! = f d[j]! := by
  by_cases h : j < d.size
  · rw [getElem!_pos _ j (by simpa using h), getElem!_pos d j h, Array.getElem_map]
  · rw [getElem!_neg _ j (by simpa using h), getElem!_neg d j h, hf]
theorem map_set (d : Array α) (j : Nat) (x : α) : (d.setIfInBounds j x).map f = (d.map f).setIfInBounds j (f x) := by
  apply Array.ext_getElem?
  intro k
  simp only [Array.getElem?_map, Array.getElem?_setIfInBounds, Array.size_map]
  split
  · split <;> simp
  · rfl
theorem swp_map (hf : f default = default) (d : Array α) (i j : Nat) : (Go.Sort.swp d i j).map f = Go.Sort.swp (d.map f) i j := by
  unfold Go.Sort.swp
  rw [map_set, map_set, map_get hf, map_get hf]
theorem insInner_map (hf : f default = default) (hl : ∀ x y, lt' (f x) (f y) = lt x y) (a : Nat) : ∀ (j : Nat) (d : Array α), (Go.Sort.insInner lt a j d).map f = Go.Sort.insInner lt' a j (d.map f)
  | 0, d => rfl
  | j + 1, d => by
    simp only [Go.Sort.insInner]
    rw [map_get hf, map_get hf, hl]
    split
    · rw [insInner_map hf hl a j, swp_map hf]
    · rfl
theorem insOuter_map (hf : f default = default) (hl : ∀ x y, lt' (f x) (f y) = lt x y) (a b : Nat) : ∀ (n i : Nat) (d : Array α), b - i = n → (Go.Sort.insOuter lt a b i d).map f = Go.Sort.insOuter lt' a b i (d.map f) := by
  intro n
  induction n with
  | zero => intro i d hn; rw [Go.Proofs.insOuter_stop _ _ _ _ _ (by omega), Go.Proofs.insOuter_stop _ _ _ _ _ (by omega)]
  | succ n ih =>
    intro i d hn
    rw [Go.Proofs.insOuter_go lt a b i d (by omega), Go.Proofs.insOuter_go lt' a b i _ (by omega), ih (i + 1) _ (by omega), insInner_map hf hl]
end
/-- The stable sort of at most twenty numbers. -/
def sortI (c : Int → Int → Int) (xs : List Int) : List Int := (Go.Sort.insertionSort (Go.Proofs.ltOf c) xs.toArray 0 xs.length).toList
theorem sortI_map {p : Int → Prop} (h0 : p 0) (c : Int → Int → Int) (d : Array {x : Int // p x}) : letI : Inhabited {x : Int // p x} := ⟨⟨0, h0⟩⟩
    (Go.Sort.insertionSort (Go.Proofs.ltOf fun x y => c x.1 y.1) d 0 d.size).toList.map (·.1) = sortI c (d.toList.map (·.1)) := by
  letI : Inhabited {x : Int // p x} := ⟨⟨0, h0⟩⟩
  have h := insOuter_map (f := fun x : {x : Int // p x} => x.1) (lt := Go.Proofs.ltOf fun x y : {x : Int // p x} => c x.1 y.1) (lt' := Go.Proofs.ltOf c) rfl (fun x y => rfl) 0 d.size _ 1 d rfl
  unfold sortI Go.Sort.insertionSort
  rw [← Array.toList_map, h]
  have e : (d.toList.map (·.1)).toArray = d.map (fun x => x.1) := by apply Array.ext'; simp only [Array.toList_map]
  rw [e, List.length_map, Array.length_toList]
theorem sortI_len (c : Int → Int → Int) (xs : List Int) : (sortI c xs).length = xs.length := by
  have key : ∀ (n i : Nat) (d : Array Int), d.size - i = n → (Go.Sort.insOuter (Go.Proofs.ltOf c) 0 d.size i d).size = d.size := by
    intro n
    induction n with
    | zero => intro i d hn; rw [Go.Proofs.insOuter_stop _ _ _ _ _ (by omega)]
    | succ n ih =>
      intro i d hn
      rw [Go.Proofs.insOuter_go _ _ _ _ _ (by omega)]
      obtain ⟨h1, _, _⟩ := insInner_at (lt := Go.Proofs.ltOf c) 0 i d (by omega)
      have := ih (i + 1) (Go.Sort.insInner (Go.Proofs.ltOf c) 0 i d) (by omega)
      rw [h1] at this
      exact this
  have := key _ 1 xs.toArray rfl
  unfold sortI Go.Sort.insertionSort
  simpa using this

open Go.Shelf
def laysSlF20_f145_ren : Go.Shelf.Ren := ⟨fun | 20 => 145 | n => n, fun | 24 => 3 | 22 => 24 | 3 => 3 | 25 => 85 | 4 => 4 | 0 => 0 | n => n, fun | n => n⟩
theorem laysSlF20_f145 : Go.Proofs.SlLaysF.n20 Try.prog laysSlF20_f145_ren := {
  mixed := by kernel_rfl
  f20 := ⟨Try.f145.name, by decide, Try.func145.trans (congrArg some (by kernel_rfl))⟩
  t0 := Try.underlying0
  a0 := Try.isAgg0
  z0 := Try.sizeOf0
  v0 := Try.zeroValue0
  t3 := Try.underlying3
  a3 := Try.isAgg3
  z3 := Try.sizeOf3
  v3 := Try.zeroValue3
  t4 := Try.underlying4
  a4 := Try.isAgg4
  z4 := Try.sizeOf4
  v4 := Try.zeroValue4
  t22 := Try.underlying24
  a22 := Try.isAgg24
  z22 := Try.sizeOf24
  v22 := Try.zeroValue24
  a24 := Try.isAgg3
  z24 := Try.sizeOf3
  t25 := Try.underlying85
  a25 := Try.isAgg85
  z25 := Try.sizeOf85
  v25 := Try.zeroValue85 }
open Go.RowKit Go.Lib Go.Sort in
/-- slices.insertionSortCmpFunc at elements of one cell: from a world of the sort's to a world of the sort's. (LAID AT THE INSTANCE 'slices.insertionSortCmpFunc[int]': no walk: one application.) -/
theorem insertionSortCmpFunc_s {α : Type} [Inhabited α] (enc : α → Value) (cf : α → α → Int) (g : Nat) (cb : Array Value) (blk off cap a b : Nat) (d0 d : Array α) (w0 w : World) (eg : ∀ args w, (callFunc g args).run Try.prog w = .ok (.enter g args) w) (hcmp : CmpLays1 Try.prog g cb enc cf blk off d0.size w0) (R : Row1 enc w0 blk off d0) (hs : d0.size = d.size) (S : SW enc w0 blk off d w) (hab : a ≤ b) (hb : b ≤ d.size) (hsz : d.size < 4611686018427387904) :
    Calls Try.prog 145 #[.slice (some ⟨blk, off, none⟩) d.size cap, .int .i64 a, .int .i64 b, .func (.func g) #[] cb] w fun e w' => e = .returned (.tuple #[]) ∧ SW enc w0 blk off (Sort.insertionSort (ltOf cf) d a b) w' := Any.insertionSortCmpFunc_s laysSlF20_f145 enc cf g cb blk off cap a b d0 d w0 w eg hcmp R hs S hab hb hsz

open Go.RowKit Go.Lib Go.Sort in
theorem stable_cmp {α : Type} [Inhabited α] (enc : α → Value) (cf : α → α → Int) (g : Nat) (cb : Array Value) (blk off cap : Nat) (d : Array α) (w : World) (eg : ∀ args w, (callFunc g args).run Try.prog w = .ok (.enter g args) w) (hcmp : CmpLays1 Try.prog g cb enc cf blk off d.size w) (R : Row1 enc w blk off d) (hn : d.size ≤ 19) :
    Calls Try.prog 116 #[.slice (some ⟨blk, off, none⟩) d.size cap, .int .i64 d.size, .func (.func g) #[] cb] w fun e w' => e = .returned (.tuple #[]) ∧ SW enc w blk off (Sort.insertionSort (ltOf cf) d 0 d.size) w' := by
  have S0 : SW enc w blk off d w := by
    refine ⟨0, #[], ?_⟩
    unfold sortWorld
    rw [grow_empty]
    exact (putRow_self _ _ _ _ _ R.hH).symm
  have hcon := insertionSortCmpFunc_s enc cf g cb blk off cap 0 d.size d d w w eg hcmp R rfl S0 (Nat.zero_le _) (Nat.le_refl _) (by omega)
  clear S0 R hcmp
  generalize Sort.insertionSort (ltOf cf) d 0 d.size = r at hcon ⊢
  go_enter Try.func116, Try.ntmps116
  have h19 : (d.size : Int) ≤ 19 := by omega
  go_wp2
  go_loopg [7, 8] 0 (fun g1 v7 v8 wr => v7 = .int .i64 0 ∧ v8 = .int .i64 20 ∧ wr = w)
  case atStart => exact ⟨rfl, rfl, rfl⟩
  case round =>
    obtain ⟨rfl, rfl, rfl⟩ := hrel
    have hle : ¬ (20 : Int) ≤ (d.size : Int) := by omega
    go_wp2_with (go_at_call 145; refine hcon.mono ?_; rintro e w' ⟨rfl, hw'⟩)
    have HW : Go.Aside (SW enc wr blk off r w') := hw'
    clear hw' hcon
    go_loopg [6, 7, 8] 0 (fun g1 v6 v7 v8 wr2 => v6 = .int .i64 20 ∧ wr2 = w')
    case atStart => exact ⟨rfl, rfl⟩
    case round =>
      obtain ⟨rfl, rfl⟩ := hrel
      have hlt : ¬ (20 : Int) < (d.size : Int) := by omega
      go_wp2
      go_end0
      exact ⟨rfl, HW.out⟩
open Go.RowKit Go.Lib Go.Sort in
theorem stable_fn {α : Type} [Inhabited α] (enc : α → Value) (cf : α → α → Int) (g : Nat) (cb : Array Value) (blk off cap : Nat) (d : Array α) (w : World) (eg : ∀ args w, (callFunc g args).run Try.prog w = .ok (.enter g args) w) (hcmp : CmpLays1 Try.prog g cb enc cf blk off d.size w) (R : Row1 enc w blk off d) (hn : d.size ≤ 19) :
    Calls Try.prog 76 #[.slice (some ⟨blk, off, none⟩) d.size cap, .func (.func g) #[] cb] w fun e w' => e = .returned (.tuple #[]) ∧ SW enc w blk off (Sort.insertionSort (ltOf cf) d 0 d.size) w' := by
  have hcon := stable_cmp enc cf g cb blk off cap d w eg hcmp R hn
  clear R hcmp
  generalize Sort.insertionSort (ltOf cf) d 0 d.size = r at hcon ⊢
  go_enter Try.func76, Try.ntmps76
  go_wp2_with (go_at_call 116; refine hcon.mono ?_; rintro e w' ⟨rfl, hw'⟩)
  go_end0
  exact ⟨rfl, hw'⟩
end Go.Proofs.Ytpiaeckkjdcifaa
namespace Go.Proofs.Ytpiaeckkjdcifaa
set_option linter.unusedVariables false
set_option linter.unusedSimpArgs false
set_option linter.unusedSectionVars false
open Go
open Go.Shelf Go.RowKit Go.Lib Go.Sort

theorem moved_grow {W w' : World} (h : Moved W w' (inB [])) : ∃ q os', w' = grow (W.drewN q) os' := by
  refine ⟨w'.drawn - W.drawn, w'.heap.extract W.heap.size w'.heap.size, ?_⟩
  have hd := h.drawn
  have e : w'.heap = W.heap ++ w'.heap.extract W.heap.size w'.heap.size := by
    apply Array.ext_getElem?
    intro i
    by_cases hi : i < W.heap.size
    · rw [Array.getElem?_append_left hi]
      exact h.block i hi (fun ⟨s, hs, _⟩ => by simp at hs)
    · rw [Array.getElem?_append_right (by omega), Array.getElem?_extract]
      by_cases h2 : i < w'.heap.size
      · rw [if_pos (by omega)]; congr 1; omega
      · rw [if_neg (by omega), Array.getElem?_eq_none (by omega)]
  have e1 := h.os
  have e2 := h.tape
  have e3 := h.output
  unfold grow World.drewN
  cases w' with
  | mk hp tp dr o ou =>
    dsimp only at e e1 e2 e3 hd ⊢
    rw [← e, e1, e2, e3, show W.drawn + (dr - W.drawn) = dr by omega]

theorem sortWorld_cell {α : Type} [Inhabited α] {enc : α → Value} {w : World} {blk off m : Nat} {dk : Array α} {os : Array Obj} {ad : Addr} {v : Value} (hc : w.cell? ad = some v) (hb : ad.block ≠ blk) : (sortWorld enc w blk off m dk os).cell? ad = some v := by
  have hlt := World.block_lt_of_cell? w ad hc
  rw [World.cell?_of_block (w := w), hc]
  unfold sortWorld grow
  have : ((putRow enc (Go.Sort.ahead w m) blk off dk).heap ++ os)[ad.block]? = w.heap[ad.block]? := by
    rw [Array.getElem?_append_left (by rw [size_putRow]; exact hlt)]
    unfold putRow mapBlock Go.Sort.ahead
    rw [Array.getElem?_modify, if_neg (fun e => hb e.symm)]
  exact this

/-- The closure's contract, as the sort wants it. -/
theorem cmp_lays {g : Nat} {C : Ctr} (hM : Meets Try.prog g C) (hm : C.modes = [.v .p, .v .p, .v .p]) (hal : C.al = false) {cap : AV} (hcap : cleanV cap = true) {p : Int → Prop} (c : Int → Int → Int)
    (hrun : ∀ x y, p x → p y → ∃ pre, C.run [.int x, .int y, cap] [] = some ⟨pre, .int (c x y), [], []⟩ ∧ pre)
    {w : World} {blk off size : Nat} {D : Nat → Prop} {σ : Sig} {cb : Value} (hD : D blk) (hcb : RelV w D σ cap cb) [Inhabited {x : Int // p x}] :
    CmpLays1 Try.prog g #[cb] (fun x : {x : Int // p x} => Value.int .i64 x.1) (fun x y => c x.1 y.1) blk off size w := by
  intro m os dk hs x y
  obtain ⟨pre, h1, h2⟩ := hrun x.1 y.1 x.2 y.2
  have hS : Stab w D σ (sortWorld (fun x : {x : Int // p x} => Value.int .i64 x.1) w blk off m dk os) (fun b => inB [] b ∨ False) noSig := by
    refine ⟨fun ad v hc hd => sortWorld_cell hc (fun e => hd (e ▸ hD)), fun b _ _ h => ?_, fun _ => .inr rfl⟩
    rcases h with ⟨s, hs, _⟩ | h
    · simp at hs
    · exact h
  have hcb' : RelV (sortWorld (fun x : {x : Int // p x} => Value.int .i64 x.1) w blk off m dk os) (fun b => inB [] b ∨ False) noSig cap cb := RelV.stab hS cap cb hcb
  have hcall := hM.2.1 (sortWorld (fun x : {x : Int // p x} => Value.int .i64 x.1) w blk off m dk os) [.int .i64 x.1, .int .i64 y.1, cb] [.int x.1, .int y.1, cap] [] [] (fun _ => False) pre (fun R' => R' = ⟨pre, .int (c x.1 y.1), [], []⟩)
    (by simp only [runR, h1, Option.map_some]) h2 (by simp [cleanL, cleanV, hcap]) rfl (fun b h => h.elim) (fun _ b h => h) (by rw [hm]; exact ⟨rfl, rfl, hcb', trivial⟩) trivial (fun b h => by obtain ⟨s, hs, _⟩ := h; simp at hs) (fun i j s t h => by simp at h)
  refine Calls.mono hcall ?_
  rintro e w' ⟨R, rfl, v, ns, rfl, hmv, hmuts, hnews, hnb, hap, hres⟩
  refine ⟨?_, moved_grow hmv⟩
  have : v = .int .i64 (c x.1 y.1) := hres
  rw [this]

theorem sortI_nil (c : Int → Int → Int) : sortI c [] = [] := List.eq_nil_of_length_eq_zero (by rw [sortI_len]; rfl)

theorem vals_i64 (xs : List Int) : xs.flatMap (FT.vals .i64) = xs.map (Value.int .i64) := (List.map_eq_flatMap (f := Value.int .i64) (l := xs)).symm

/-- The sort of a part of what is owned. -/
theorem sort_step {E : Env} (hP : E.P = Try.prog) {fr : Nat → Option AV} {H : Nat → Option Own} {Kn : Nat → Prop} {σ : Sig} {a : Act} {w : World} (F : Fits E fr H Kn σ a w) {g : Nat} {C : Ctr} (hM : Meets Try.prog g C) (hm : C.modes = [.v .p, .v .p, .v .p]) (hal : C.al = false) {cap : AV} (hcap : cleanV cap = true) {p : Int → Prop} (h0 : p 0) (c : Int → Int → Int)
    (hrun : ∀ x y, p x → p y → ∃ pre, C.run [.int x, .int y, cap] [] = some ⟨pre, .int (c x y), [], []⟩ ∧ pre) (eg : ∀ args w, (callFunc g args).run Try.prog w = .ok (.enter g args) w)
    {cb : Value} (hcb : RelV w (E.D σ) σ cap cb) {r : Nat} {e : TypeId} {xs : List Int} (hH : H r = some (.sl e .i64 xs)) {lo n : Nat} (hlo : lo + n ≤ xs.length) (hn : n ≤ 19) (hp : ∀ x ∈ xs, p x) {b cp : Nat} {s : Value} {bs : List Nat} (hr : σ r = some (s, bs)) {m cap0 : Nat} (hs : s = .slice (some ⟨b, 0, none⟩) m cap0) :
    Calls E.P 76 #[.slice (some ⟨b, lo, none⟩) n cp, .func (.func g) #[] #[cb]] w fun e' w' => (∃ v, e' = .returned v) ∧ Moved w w' (fun k => k ∈ bs) ∧
      ∀ σ'' : Sig, OwnRel w' (E.D σ) σ'' (.sl e .i64 (xs.take lo ++ sortI c ((xs.drop lo).take n) ++ xs.drop (lo + n))) s bs := by
  letI : Inhabited {x : Int // p x} := ⟨⟨0, h0⟩⟩
  obtain ⟨s', bs', hr', hown⟩ := F.heap r _ hH
  rw [hr] at hr'; cases hr'
  obtain ⟨hrow, hbs⟩ := hown σ (fun _ _ => rfl)
  subst hs
  have hbD : E.D σ b := .inl ⟨r, _, _, hr, by rw [hbs]; simp [Value.blk]⟩
  rcases hrow.2 with ⟨h1, _⟩ | ⟨g0, cap1, cur, h1, _, hg, hnc, hmax, hsz, htk⟩
  · cases h1
  simp only [Value.slice.injEq, Option.some.injEq, Addr.mk.injEq, and_true] at h1
  obtain ⟨rfl, hmx, rfl⟩ := h1
  simp only [FT.size, Nat.mul_one] at htk hsz
  rw [vals_i64] at htk
  have hcur : ∀ k, k < xs.length → cur[k]? = some (.int .i64 (xs.getD k 0)) := by
    intro k hk
    have : (cur.toList.take xs.length)[k]? = (xs.map (Value.int .i64))[k]? := by rw [htk]
    rw [List.getElem?_take, if_pos hk, List.getElem?_map, Array.getElem?_toList] at this
    rw [this, List.getD_eq_getElem?_getD, List.getElem?_eq_getElem hk]; rfl
  have hpart : ∀ x ∈ (xs.drop lo).take n, p x := fun x hx => hp x (List.mem_of_mem_drop (List.mem_of_mem_take hx))
  let d : Array {x : Int // p x} := (((xs.drop lo).take n).attachWith p hpart).toArray
  have hdsz : d.size = n := by
    simp only [d, List.size_toArray, List.length_attachWith, List.length_take, List.length_drop]; omega
  have hdl : d.toList.map (·.1) = (xs.drop lo).take n := by
    simp only [d]; exact List.attachWith_map_subtype_val hpart
  have hdat : ∀ j, j < n → (d[j]!).1 = xs.getD (lo + j) 0 := by
    intro j hj
    have h2 : (d.toList.map (·.1))[j]? = ((xs.drop lo).take n)[j]? := by rw [hdl]
    rw [List.getElem?_map, Array.getElem?_toList, List.getElem?_take, if_pos hj, List.getElem?_drop, Array.getElem?_eq_getElem (by omega), List.getElem?_eq_getElem (by omega)] at h2
    simp only [Option.map_some, Option.some.injEq] at h2
    rw [getElem!_pos d j (by omega), h2, List.getD_eq_getElem?_getD, List.getElem?_eq_getElem (by omega)]; rfl
  have R : Row1 (fun x : {x : Int // p x} => Value.int .i64 x.1) w b lo d := by
    refine ⟨fun x => rfl, fun j hj => ⟨?_, ?_⟩, (Array.getElem?_eq_some_iff.1 hg).1⟩
    · rw [hdsz] at hj
      have := hcur (lo + j) (by omega)
      show w.cell? _ = some (Value.int .i64 (d[j]!).1)
      rw [hdat j hj]
      simp only [World.cell?, hg, Option.isSome_none, Bool.false_eq_true, if_false]
      exact this
    · simp [World.frozen?, hg]
  have hcon := stable_fn (fun x : {x : Int // p x} => Value.int .i64 x.1) (fun x y => c x.1 y.1) g #[cb] b lo cp d w eg (cmp_lays hM hm hal hcap c hrun hbD hcb) R (by omega)
  rw [hdsz] at hcon
  rw [hP]
  refine Calls.mono hcon ?_
  rintro e' w' ⟨rfl, q, os, rfl⟩
  have hsorted : (Go.Sort.insertionSort (Go.Proofs.ltOf fun x y : {x : Int // p x} => c x.1 y.1) d 0 n).toList.map (·.1) = sortI c ((xs.drop lo).take n) := by
    have := sortI_map (p := p) h0 c d
    rw [hdl, hdsz] at this
    exact this
  generalize Go.Sort.insertionSort (Go.Proofs.ltOf fun x y : {x : Int // p x} => c x.1 y.1) d 0 n = d' at hsorted
  have hd' : d'.size = n := by
    have := congrArg List.length hsorted
    rw [List.length_map, Array.length_toList, sortI_len, List.length_take, List.length_drop] at this
    omega
  have hmem : b ∈ bs := by rw [hbs]; simp [Value.blk]
  have hblk : b < w.heap.size := (Array.getElem?_eq_some_iff.1 hg).1
  have hheap : ∀ k, k < w.heap.size → (sortWorld (fun x : {x : Int // p x} => Value.int .i64 x.1) w b lo q d' os).heap[k]? = if k = b then some (.cells (putCells (fun x : {x : Int // p x} => Value.int .i64 x.1) lo d' cur) e (0, 0)) else w.heap[k]? := by
    intro k hk
    unfold sortWorld grow
    show ((putRow (fun x : {x : Int // p x} => Value.int .i64 x.1) (Go.Sort.ahead w q) b lo d').heap ++ os)[k]? = _
    rw [Array.getElem?_append_left (by rw [size_putRow]; exact hk)]
    unfold putRow mapBlock Go.Sort.ahead
    rw [Array.getElem?_modify]
    by_cases e1 : b = k
    · subst e1; rw [if_pos rfl, if_pos rfl, hg]; rfl
    · rw [if_neg e1, if_neg (fun h => e1 h.symm)]
  refine ⟨⟨_, rfl⟩, ⟨fun k hk hkb => ?_, ?_, rfl, rfl, rfl, ?_⟩, fun σ'' => ⟨⟨?_, .inr ⟨b, cap0, _, ?_, Nat.zero_le _, (by rw [hheap b hblk, if_pos rfl]), ?_, hmax, ?_, ?_⟩⟩, hbs⟩⟩
  · rw [hheap k hk, if_neg (fun h => hkb (by rw [h]; exact hmem))]
  · unfold sortWorld grow
    show w.heap.size ≤ ((putRow (fun x : {x : Int // p x} => Value.int .i64 x.1) (Go.Sort.ahead w q) b lo d').heap ++ os).size
    rw [Array.size_append, size_putRow]
    show w.heap.size ≤ w.heap.size + _
    omega
  · show w.drawn ≤ w.drawn + q
    omega
  · rw [vals_i64, List.length_map]; simp [FT.size]
  · have : (xs.take lo ++ sortI c ((xs.drop lo).take n) ++ xs.drop (lo + n)).length = xs.length := by
      simp only [List.length_append, List.length_take, List.length_drop, sortI_len]; omega
    rw [this, hmx]
  · have : (xs.take lo ++ sortI c ((xs.drop lo).take n) ++ xs.drop (lo + n)).length = xs.length := by
      simp only [List.length_append, List.length_take, List.length_drop, sortI_len]; omega
    omega
  · simp only [putCells, Array.size_mapIdx, FT.size, Nat.mul_one]; exact hsz
  · have hlen : (xs.take lo ++ sortI c ((xs.drop lo).take n) ++ xs.drop (lo + n)).length = xs.length := by
      simp only [List.length_append, List.length_take, List.length_drop, sortI_len]; omega
    rw [vals_i64, hlen, FT.size, Nat.mul_one]
    apply List.ext_getElem?
    intro k
    rw [List.getElem?_take, List.getElem?_map]
    by_cases hk : k < xs.length
    · rw [if_pos hk, Array.getElem?_toList, putCells, Array.getElem?_mapIdx, hcur k hk, Option.map_some]
      by_cases h1 : lo ≤ k ∧ k < lo + d'.size
      · rw [if_pos h1]
        rw [List.append_assoc, List.getElem?_append_right (by rw [List.length_take]; omega), List.getElem?_append_left (by rw [sortI_len, List.length_take, List.length_take, List.length_drop]; omega), List.length_take, ← hsorted, List.getElem?_map, Array.getElem?_toList, Nat.min_eq_left (by omega), getElem!_pos d' (k - lo) (by omega), Array.getElem?_eq_getElem (by omega)]
        rfl
      · rw [if_neg h1]
        by_cases h2 : k < lo
        · rw [List.append_assoc, List.getElem?_append_left (by rw [List.length_take]; omega), List.getElem?_take, if_pos h2, List.getD_eq_getElem?_getD, List.getElem?_eq_getElem hk]; rfl
        · rw [List.getElem?_append_right (by rw [List.length_append, sortI_len, List.length_take, List.length_take, List.length_drop]; omega), List.length_append, sortI_len, List.length_take, List.length_take, List.length_drop, List.getElem?_drop, show lo + n + (k - (min lo xs.length + min n (xs.length - lo))) = k by omega, List.getD_eq_getElem?_getD, List.getElem?_eq_getElem hk]; rfl
    · rw [if_neg hk, List.getElem?_eq_none (by omega)]; rfl

theorem ins_nil (g : Nat) (cb : Array Value) (w : World) : Calls Try.prog 145 #[.slice none 0 0, .int .i64 0, .int .i64 0, .func (.func g) #[] cb] w fun e w' => e = .returned (.tuple #[]) ∧ w' = w := by
  go_enter Try.func145, Try.ntmps145
  go_wp2
  go_loopg [8] 0 (fun g1 v8 wr => v8 = .int .i64 1 ∧ wr = w)
  case atStart => exact ⟨rfl, rfl⟩
  case round =>
    obtain ⟨rfl, rfl⟩ := hrel
    go_wp2
    go_end0
    exact ⟨rfl, rfl⟩
theorem stable_cmp_nil (g : Nat) (cb : Array Value) (w : World) : Calls Try.prog 116 #[.slice none 0 0, .int .i64 0, .func (.func g) #[] cb] w fun e w' => e = .returned (.tuple #[]) ∧ w' = w := by
  have hcon := ins_nil g cb w
  go_enter Try.func116, Try.ntmps116
  go_wp2
  go_loopg [7, 8] 0 (fun g1 v7 v8 wr => v7 = .int .i64 0 ∧ v8 = .int .i64 20 ∧ wr = w)
  case atStart => exact ⟨rfl, rfl, rfl⟩
  case round =>
    obtain ⟨rfl, rfl, rfl⟩ := hrel
    go_wp2_with (go_at_call 145; refine hcon.mono ?_; rintro e w' ⟨rfl, rfl⟩)
    go_loopg [6, 7, 8] 0 (fun g1 v6 v7 v8 wr2 => v6 = .int .i64 20 ∧ wr2 = w')
    case atStart => exact ⟨rfl, rfl⟩
    case round =>
      obtain ⟨rfl, rfl⟩ := hrel
      go_wp2
      go_end0
      exact ⟨rfl, rfl⟩
theorem stable_nil (g : Nat) (cb : Array Value) (w : World) : Calls Try.prog 76 #[.slice none 0 0, .func (.func g) #[] cb] w fun e w' => e = .returned (.tuple #[]) ∧ w' = w := by
  have hcon := stable_cmp_nil g cb w
  go_enter Try.func76, Try.ntmps76
  go_wp2_with (go_at_call 116; refine hcon.mono ?_; rintro e w' ⟨rfl, rfl⟩)
  go_end0
  exact ⟨rfl, rfl⟩
theorem callable_stable : Callable Try.prog 76 := ⟨_, Try.func76, by rfl, rfl⟩

/-- A whole row that is owned is sorted. -/
theorem hol_sort {E : Env} (hP : E.P = Try.prog) {st : AState} {o : Oper} {k : Call} {i j d r : Nat} {g : Nat} {C : Ctr} {cap : AV} {p : Int → Prop} (c : Int → Int → Int) {e : TypeId} {xs : List Int}
    (hg : o.guard = none) (ho : o.op = .call k) (hc : k.callee = .value (.func 76)) (ha : k.args.toList = [.tmp i, .tmp j]) (hd : o.dst = some d) (hdn : d < E.nt)
    (hi : look st.fr i = some (.sl r)) (hj : look st.fr j = some (.clo g [cap])) (hH : applyUps st.H noH r = some (.sl e .i64 xs))
    (hM : Meets Try.prog g C) (hm : C.modes = [.v .p, .v .p, .v .p]) (hal : C.al = false) (hcap : cleanV cap = true) (h0 : p 0)
    (hrun : ∀ x y, p x → p y → ∃ pre, C.run [.int x, .int y, cap] [] = some ⟨pre, .int (c x y), [], []⟩ ∧ pre) (eg : ∀ args w, (callFunc g args).run Try.prog w = .ok (.enter g args) w) (hn : xs.length ≤ 19) (hp : ∀ x ∈ xs, p x) :
    HOL E [o] st ⟨(d, .junk) :: st.fr, (r, some (.sl e .i64 (sortI c xs))) :: st.H, st.nx⟩ := by
  refine HOL.write hg ho hc (hP ▸ callable_stable) hd hdn ?_
  intro a w σ F
  obtain ⟨s, bs, hr, hown⟩ := F.heap r _ hH
  refine ⟨s, bs, hr, ?_⟩
  have hv1 : a.tmps.getD i undef = s := F.frame i _ hi σ (fun _ _ => rfl) s bs hr
  obtain ⟨cs, hv2, hcs⟩ := F.frame j _ hj σ (fun _ _ => rfl)
  obtain ⟨cb, cs', rfl, hcb, hnil⟩ := hcs
  have hnil : cs' = [] := hnil
  subst hnil
  have hargs : k.args.toList.map a.eval = [s, .func (.func g) #[] #[cb]] := by
    rw [ha]; simp only [List.map_cons, List.map_nil, Act.eval]; rw [hv1, hv2]
  rw [hargs]
  obtain ⟨hrow, hbs⟩ := hown σ (fun _ _ => rfl)
  rcases hrow.2 with ⟨h1, h2⟩ | ⟨b, cp, cur, h1, _⟩
  · have hx : xs = [] := List.eq_nil_of_length_eq_zero h2
    subst hx
    subst h1
    rw [hP]
    refine Calls.mono (stable_nil g #[cb] w) ?_
    rintro e' w' ⟨rfl, rfl⟩
    refine ⟨⟨_, rfl⟩, ⟨fun _ _ _ => rfl, Nat.le_refl _, rfl, rfl, rfl, Nat.le_refl _⟩, fun σ'' h'' => ?_⟩
    rw [sortI_nil]
    exact hown σ'' h''
  · have h := sort_step hP F hM hm hal hcap h0 c hrun eg hcb hH (lo := 0) (n := xs.length) (by omega) hn hp (cp := cp) hr h1
    have e1 : s = .slice (some ⟨b, 0, none⟩) xs.length cp := h1
    rw [e1]
    refine Calls.mono h ?_
    rintro e' w' ⟨h3, h4, h5⟩
    refine ⟨h3, h4, fun σ'' _ => ?_⟩
    have h6 := h5 σ''
    rw [List.take_zero, List.nil_append, List.drop_zero, List.take_length, Nat.zero_add, List.drop_length, List.append_nil, e1] at h6
    exact h6

/-- A part of a row that is owned is sorted. -/
theorem hol_part {E : Env} (hP : E.P = Try.prog) {st : AState} {o1 o2 o3 : Oper} {k : Call} {t e0 : TypeId} {ie : TypeInfo} {i il ih ic d1 d2 d3 r : Nat} {g : Nat} {C : Ctr} {cap : AV} {p : Int → Prop} (c : Int → Int → Int) {e : TypeId} {xs : List Int} {lo hi' : Int}
    (ht : E.P.underlying t = some (.slice e0)) (he : E.P.info? e0 = some ie) (hie : ie.size = 1)
    (hg1 : o1.guard = none) (ho1 : o1.op = .slice t (.tmp i) (some (.tmp il)) (some (.tmp ih)) none) (hd1 : o1.dst = some d1)
    (hg2 : o2.guard = none) (ho2 : o2.op = .makeFunc (.func g) #[] #[.tmp ic]) (hd2 : o2.dst = some d2)
    (hg : o3.guard = none) (ho : o3.op = .call k) (hc : k.callee = .value (.func 76)) (ha : k.args.toList = [.tmp d1, .tmp d2]) (hd : o3.dst = some d3)
    (hn1 : d1 < E.nt) (hn2 : d2 < E.nt) (hn3 : d3 < E.nt) (h12 : d1 ≠ d2) (h1c : ic ≠ d1) (hf1 : look st.fr d1 = none) (hf2 : look st.fr d2 = none) (hf3 : look st.fr d3 = none)
    (hi : look st.fr i = some (.sl r)) (hil : look st.fr il = some (.int lo)) (hih : look st.fr ih = some (.int hi')) (hic : look st.fr ic = some cap) (hH : applyUps st.H noH r = some (.sl e .i64 xs))
    (hM : Meets Try.prog g C) (hm : C.modes = [.v .p, .v .p, .v .p]) (hal : C.al = false) (hcap : cleanV cap = true) (h0 : p 0)
    (hrun : ∀ x y, p x → p y → ∃ pre, C.run [.int x, .int y, cap] [] = some ⟨pre, .int (c x y), [], []⟩ ∧ pre) (eg : ∀ args w, (callFunc g args).run Try.prog w = .ok (.enter g args) w)
    (hlo : 0 ≤ lo) (hlh : lo ≤ hi') (hhi : hi' ≤ xs.length) (hlt : lo < xs.length) (hn : hi' - lo ≤ 19) (hp : ∀ x ∈ xs, p x) :
    HOL E [o1, o2, o3] st ⟨st.fr, (r, some (.sl e .i64 (xs.take lo.toNat ++ sortI c ((xs.drop lo.toNat).take (hi' - lo).toNat) ++ xs.drop hi'.toNat))) :: st.H, st.nx⟩ := by
  intro a w F ops Q' rest hK
  obtain ⟨σ, F⟩ := F
  obtain ⟨s, bs, hr, hown⟩ := F.heap r _ hH
  have hv1 : a.tmps.getD i undef = s := F.frame i _ hi σ (fun _ _ => rfl) s bs hr
  have hv2 : a.tmps.getD il undef = .int .i64 lo := F.frame il _ hil σ (fun _ _ => rfl)
  have hv3 : a.tmps.getD ih undef = .int .i64 hi' := F.frame ih _ hih σ (fun _ _ => rfl)
  have hcb : RelV w (E.D σ) σ cap (a.tmps.getD ic undef) := F.frame ic _ hic σ (fun _ _ => rfl)
  obtain ⟨hrow, hbs⟩ := hown σ (fun _ _ => rfl)
  rcases hrow.2 with ⟨h1, h2⟩ | ⟨b, cp, cur, h1, _, hgb, hcp1, _⟩
  · omega
  have hcp : xs.length ≤ cp := hcp1
  show wpList E.P ops Q' (o1 :: (o2 :: o3 :: rest)) a w
  refine wpList_plain hg1 fun K1 hK1 => ?_
  have hs1 := run_slice_op ht he w (some ⟨b, 0, none⟩) xs.length cp lo.toNat hi'.toNat (some (.int .i64 lo)) (some (.int .i64 hi')) (.inr (by rw [Int.toNat_of_nonneg hlo])) (.inr (by rw [Int.toNat_of_nonneg (by omega)])) (by omega) (by omega)
  have hr1 : (execOp a.eval o1).run E.P w = .ok (.value (.slice (some ⟨b, lo.toNat, none⟩) (hi'.toNat - lo.toNat) (cp - lo.toNat))) w := by
    have e1 : a.eval (.tmp i) = .slice (some ⟨b, 0, none⟩) xs.length cp := hv1.trans h1
    have e2 : a.eval (.tmp il) = .int .i64 lo := hv2
    have e3 : a.eval (.tmp ih) = .int .i64 hi' := hv3
    rw [if_neg (by omega), hie] at hs1
    simp only [execOp, ho1, e1, e2, e3, Option.map_some]
    refine run_ok_value (hs1.trans ?_)
    simp [Addr.add]
    try omega
  unfold Oper.wp
  rw [hr1]
  refine hK1 _ _ ?_
  have F1 := F.put d1 hn1 (.val (.slice (some ⟨b, lo.toNat, none⟩) (hi'.toNat - lo.toNat) (cp - lo.toNat))) (.slice (some ⟨b, lo.toNat, none⟩) (hi'.toNat - lo.toNat) (cp - lo.toNat)) (fun _ _ => rfl)
  rw [hd1]
  have hpg : ∀ (q d : Nat) (v : Value) (a : Act), q ≠ d → (a.put (some d) v).tmps.getD q undef = a.tmps.getD q undef := by
    intro q d v a hq
    simp only [Act.put]
    rw [Array.getD_eq_getD_getElem?, Array.getD_eq_getD_getElem?, Array.getElem?_setIfInBounds, if_neg (fun h => hq h.symm)]
  have hpg1 : ∀ (d : Nat) (v : Value) (a : Act), d < a.tmps.size → (a.put (some d) v).tmps.getD d undef = v := by
    intro d v a hq
    simp only [Act.put]
    rw [Array.getD_eq_getD_getElem?, Array.getElem?_setIfInBounds, if_pos rfl, if_pos hq]; rfl
  refine wpList_plain hg2 fun K2 hK2 => ?_
  have hr2 : ∀ (a : Act) (w : World), (execOp a.eval o2).run E.P w = .ok (.value (.func (.func g) #[] #[a.tmps.getD ic undef])) w := by
    intro a w
    simp [execOp, ho2, Instr.makeFunc, Act.eval]
  unfold Oper.wp
  rw [hr2]
  refine hK2 _ _ ?_
  rw [hd2]
  have F2 := F1.put d2 hn2 .junk (.func (.func g) #[] #[(a.put (some d1) (.slice (some ⟨b, lo.toNat, none⟩) (hi'.toNat - lo.toNat) (cp - lo.toNat))).tmps.getD ic undef]) (fun _ _ => trivial)
  refine wpList_plain hg fun K3 hK3 => ?_
  have hsz1 : a.tmps.size = E.nt := F.tsz
  rw [hpg ic d1 _ _ h1c] at F2 ⊢
  have hargs : k.args.toList.map (((a.put (some d1) (.slice (some ⟨b, lo.toNat, none⟩) (hi'.toNat - lo.toNat) (cp - lo.toNat))).put (some d2) (.func (.func g) #[] #[a.tmps.getD ic undef])).eval) = [.slice (some ⟨b, lo.toNat, none⟩) (hi'.toNat - lo.toNat) (cp - lo.toNat), .func (.func g) #[] #[a.tmps.getD ic undef]] := by
    rw [ha]; simp only [List.map_cons, List.map_nil, Act.eval]
    rw [hpg d1 d2 _ _ h12, hpg1 d1 _ _ (by rw [hsz1]; exact hn1), hpg1 d2 _ _ (by rw [F1.tsz]; exact hn2)]
  unfold Oper.wp
  rw [exec_call (caps := []) ho hc rfl (hP ▸ callable_stable), List.append_nil, hargs]
  have h := sort_step hP F2 hM hm hal hcap h0 c hrun eg hcb hH (lo := lo.toNat) (n := hi'.toNat - lo.toNat) (by omega) (by omega) hp (cp := cp - lo.toNat) hr h1
  refine Calls.mono h ?_
  rintro e' w' ⟨⟨v, rfl⟩, hm', h5⟩
  rw [show lo.toNat + (hi'.toNat - lo.toNat) = hi'.toNat by omega, show hi'.toNat - lo.toNat = (hi' - lo).toNat by omega] at h5
  have F3 := F2.write r s bs hr (fun k hk hkb => hm'.block k hk hkb) hm'.size hm'.os hm'.tape ⟨hm'.output, hm'.drawn⟩ _ (fun σ'' _ => h5 σ'')
  have F4 := F3.put d3 hn3 .junk v (fun _ _ => trivial)
  refine hK3 _ _ (hK _ _ ⟨σ, ?_⟩)
  rw [hd]
  have e2 : applyUps ((r, some (Own.sl e .i64 (xs.take lo.toNat ++ sortI c ((xs.drop lo.toNat).take (hi' - lo).toNat) ++ xs.drop hi'.toNat))) :: st.H) noH = upd (applyUps st.H noH) r (some (.sl e .i64 (xs.take lo.toNat ++ sortI c ((xs.drop lo.toNat).take (hi' - lo).toNat) ++ xs.drop hi'.toNat))) := by
    rw [show ((r, some (Own.sl e .i64 (xs.take lo.toNat ++ sortI c ((xs.drop lo.toNat).take (hi' - lo).toNat) ++ xs.drop hi'.toNat))) :: st.H) = [(r, some (Own.sl e .i64 (xs.take lo.toNat ++ sortI c ((xs.drop lo.toNat).take (hi' - lo).toNat) ++ xs.drop hi'.toNat)))] ++ st.H from rfl, applyUps_append, ups1]
  show Fits E (look st.fr) (applyUps _ noH) _ σ _ w'
  rw [e2]
  refine F4.less (fun q x hq => ?_)
  have q1 : q ≠ d1 := fun h => by rw [h, hf1] at hq; cases hq
  have q2 : q ≠ d2 := fun h => by rw [h, hf2] at hq; cases hq
  have q3 : q ≠ d3 := fun h => by rw [h, hf3] at hq; cases hq
  rw [upd_ne _ _ q3, upd_ne _ _ q2, upd_ne _ _ q1]
  exact hq
theorem hol_part_eq {E : Env} (hP : E.P = Try.prog) {st : AState} {o1 o2 o3 : Oper} {k : Call} {t e0 : TypeId} {ie : TypeInfo} {i il ih ic d1 d2 d3 r : Nat} {g : Nat} {C : Ctr} {cap : AV} {p : Int → Prop} (c : Int → Int → Int) {e : TypeId} {xs : List Int} {lo hi' : Int}
    (ht : E.P.underlying t = some (.slice e0)) (he : E.P.info? e0 = some ie) (hie : ie.size = 1)
    (hg1 : o1.guard = none) (ho1 : o1.op = .slice t (.tmp i) (some (.tmp il)) (some (.tmp ih)) none) (hd1 : o1.dst = some d1)
    (hg2 : o2.guard = none) (ho2 : o2.op = .makeFunc (.func g) #[] #[.tmp ic]) (hd2 : o2.dst = some d2)
    (hg : o3.guard = none) (ho : o3.op = .call k) (hc : k.callee = .value (.func 76)) (ha : k.args.toList = [.tmp d1, .tmp d2]) (hd : o3.dst = some d3)
    (hn1 : d1 < E.nt) (hn2 : d2 < E.nt) (hn3 : d3 < E.nt) (h12 : d1 ≠ d2) (h1c : ic ≠ d1) (hf1 : look st.fr d1 = none) (hf2 : look st.fr d2 = none) (hf3 : look st.fr d3 = none)
    (hi : look st.fr i = some (.sl r)) (hil : look st.fr il = some (.int lo)) (hih : look st.fr ih = some (.int hi')) (hic : look st.fr ic = some cap) (hH : applyUps st.H noH r = some (.sl e .i64 xs))
    (hM : Meets Try.prog g C) (hm : C.modes = [.v .p, .v .p, .v .p]) (hal : C.al = false) (hcap : cleanV cap = true) (h0 : p 0)
    (hrun : ∀ x y, p x → p y → ∃ pre, C.run [.int x, .int y, cap] [] = some ⟨pre, .int (c x y), [], []⟩ ∧ pre) (eg : ∀ args w, (callFunc g args).run Try.prog w = .ok (.enter g args) w)
    (hlo : 0 ≤ lo) (hlh : lo ≤ hi') (hhi : hi' ≤ xs.length) (hlt : lo < xs.length) (hn : hi' - lo ≤ 19) (hp : ∀ x ∈ xs, p x) {ys : List Int} (hys : xs.take lo.toNat ++ sortI c ((xs.drop lo.toNat).take (hi' - lo).toNat) ++ xs.drop hi'.toNat = ys) :
    HOL E [o1, o2, o3] st ⟨st.fr, (r, some (.sl e .i64 ys)) :: st.H, st.nx⟩ := by
  subst hys
  exact hol_part hP c ht he hie hg1 ho1 hd1 hg2 ho2 hd2 hg ho hc ha hd hn1 hn2 hn3 h12 h1c hf1 hf2 hf3 hi hil hih hic hH hM hm hal hcap h0 hrun eg hlo hlh hhi hlt hn hp
end Go.Proofs.Ytpiaeckkjdcifaa
