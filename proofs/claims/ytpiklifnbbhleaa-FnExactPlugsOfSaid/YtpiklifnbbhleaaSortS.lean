/- slices.Sort, slices.Compact and slices.Clip, and what their calls do to what is owned. No condition. -/
import Derived.Shelf.Sort.Plain
import Derived.Shelf.Slices.CompactI
import Derived.Shelf.Slices.In.SortNone
import Derived.Test.YtpiklifnbbhleaaCoreR
import Derived.Test.YtpiklifnbbhleaaWalk
namespace Go.Proofs.Ytpiklifnbbhleaa
set_option linter.unusedVariables false
set_option linter.unusedSimpArgs false
open Go
open Go.Shelf

def lays189_ren : Go.Shelf.Ren := ⟨fun | 189 => 25 | 125 => 30 | 257 => 29 | 128 => 40 | 129 => 41 | 294 => 31 | 295 => 32 | 296 => 33 | 297 => 34 | 298 => 35 | 299 => 36 | 216 => 37 | 300 => 38 | 301 => 39 | 328 => 42 | 329 => 43 | 330 => 44 | 331 => 45 | 332 => 46 | 215 => 47 | 343 => 48 | n => n, fun | 28 => 24 | 3 => 3 | 46 => 42 | 0 => 0 | 51 => 53 | 53 => 55 | 4 => 4 | 183 => 45 | 182 => 44 | 131 => 50 | 5 => 5 | 9 => 9 | 218 => 56 | 222 => 60 | 228 => 63 | 229 => 64 | n => n, fun | n => n⟩
theorem lays189 : Go.Proofs.Lays.n189 Try.prog lays189_ren := {
  mixed := by kernel_rfl
  f125 := Try.func30.trans (congrArg some (by kernel_rfl))
  f128 := Try.func40.trans (congrArg some (by kernel_rfl))
  f129 := Try.func41.trans (congrArg some (by kernel_rfl))
  f189 := Try.func25.trans (congrArg some (by kernel_rfl))
  f215 := Try.func47.trans (congrArg some (by kernel_rfl))
  f216 := Try.func37.trans (congrArg some (by kernel_rfl))
  f257 := Try.func29.trans (congrArg some (by kernel_rfl))
  f294 := Try.func31.trans (congrArg some (by kernel_rfl))
  f295 := Try.func32.trans (congrArg some (by kernel_rfl))
  f296 := Try.func33.trans (congrArg some (by kernel_rfl))
  f297 := Try.func34.trans (congrArg some (by kernel_rfl))
  f298 := Try.func35.trans (congrArg some (by kernel_rfl))
  f299 := Try.func36.trans (congrArg some (by kernel_rfl))
  f300 := Try.func38.trans (congrArg some (by kernel_rfl))
  f301 := Try.func39.trans (congrArg some (by kernel_rfl))
  f328 := Try.func42.trans (congrArg some (by kernel_rfl))
  f329 := Try.func43.trans (congrArg some (by kernel_rfl))
  f330 := Try.func44.trans (congrArg some (by kernel_rfl))
  f331 := Try.func45.trans (congrArg some (by kernel_rfl))
  f332 := Try.func46.trans (congrArg some (by kernel_rfl))
  f343 := Try.func48.trans (congrArg some (by kernel_rfl))
  t0 := Try.underlying0
  a0 := Try.isAgg0
  z0 := Try.sizeOf0
  v0 := Try.zeroValue0
  t3 := Try.underlying3
  a3 := Try.isAgg3
  z3 := Try.sizeOf3
  v3 := Try.zeroValue3
  t4 := Try.underlying4
  a4 := Try.isAgg4
  z4 := Try.sizeOf4
  v4 := Try.zeroValue4
  t5 := Try.underlying5
  a5 := Try.isAgg5
  z5 := Try.sizeOf5
  v5 := Try.zeroValue5
  t9 := Try.underlying9
  a9 := Try.isAgg9
  z9 := Try.sizeOf9
  v9 := Try.zeroValue9
  t28 := Try.underlying24
  a28 := Try.isAgg24
  z28 := Try.sizeOf24
  v28 := Try.zeroValue24
  t46 := Try.underlying42
  a46 := Try.isAgg42
  z46 := Try.sizeOf42
  v46 := Try.zeroValue42
  t51 := Try.underlying53
  a51 := Try.isAgg53
  z51 := Try.sizeOf53
  v51 := Try.zeroValue53
  t53 := Try.underlying55
  a53 := Try.isAgg55
  z53 := Try.sizeOf55
  v53 := Try.zeroValue55
  t131 := Try.underlying50
  a131 := Try.isAgg50
  z131 := Try.sizeOf50
  v131 := Try.zeroValue50
  t182 := Try.underlying44
  a182 := Try.isAgg44
  z182 := Try.sizeOf44
  v182 := Try.zeroValue44
  t183 := Try.underlying45
  a183 := Try.isAgg45
  z183 := Try.sizeOf45
  v183 := Try.zeroValue45
  t218 := Try.underlying56
  a218 := Try.isAgg56
  z218 := Try.sizeOf56
  v218 := Try.zeroValue56
  t222 := Try.underlying60
  a222 := Try.isAgg60
  z222 := Try.sizeOf60
  v222 := Try.zeroValue60
  t228 := Try.underlying63
  a228 := Try.isAgg63
  z228 := Try.sizeOf63
  v228 := Try.zeroValue63
  t229 := Try.underlying64
  a229 := Try.isAgg64
  z229 := Try.sizeOf64
  v229 := Try.zeroValue64 }
open Go.Sort Go.RowKit in
theorem slices_Sort_int (blk off cap : Nat) (zs : List Int) (w : World) (hH : Holds (Value.int .i64) w blk off zs.toArray) (hblk : blk < w.heap.size) (hsz : zs.length < 4611686018427387904) :
    Calls Try.prog 25 #[.slice (some ⟨blk, off, none⟩) zs.length cap] w fun e w' =>
      e = .returned (.tuple #[]) ∧ ∃ n os, w' = grow (putRow (Value.int .i64) (Sort.ahead w n) blk off (zs.mergeSort fun x y => decide (x ≤ y)).toArray) os := Any.slices_Sort_int lays189 blk off cap zs w hH hblk hsz
def laysNm220_ren : Go.Shelf.Ren := ⟨fun | 20 => 27 | n => n, fun | 22 => 24 | 3 => 3 | 4 => 4 | 0 => 0 | n => n, fun | n => n⟩
theorem laysNm220 : Go.Proofs.Lays2.n20 Try.prog laysNm220_ren := {
  mixed := by kernel_rfl
  f20 := Try.func27.trans (congrArg some (by kernel_rfl))
  t0 := Try.underlying0
  a0 := Try.isAgg0
  z0 := Try.sizeOf0
  v0 := Try.zeroValue0
  t3 := Try.underlying3
  a3 := Try.isAgg3
  z3 := Try.sizeOf3
  v3 := Try.zeroValue3
  t4 := Try.underlying4
  a4 := Try.isAgg4
  z4 := Try.sizeOf4
  v4 := Try.zeroValue4
  t22 := Try.underlying24
  a22 := Try.isAgg24
  z22 := Try.sizeOf24
  v22 := Try.zeroValue24
  i3 := by kernel_rfl }
open Go.RowKit Go.Lib Go.Sort in
theorem slices_Compact_int_arr (blk off cap : Nat) (d : Array Int) (w : World) (hH : Holds encI w blk off d) (hsz : d.size ≤ 9223372036854775807) (hcap : d.size ≤ cap) :
    Calls Try.prog 27 #[.slice (some ⟨blk, off, none⟩) d.size cap] w fun e w' => e = .returned (.slice (some ⟨blk, off, none⟩) (compactUpTo d d.size).length cap) ∧ ∃ q, w' = putRow encI (Sort.ahead w q) blk off (compactUpTo d d.size ++ List.replicate (d.size - (compactUpTo d d.size).length) 0).toArray := Any.slices_Compact_int_arr laysNm220 blk off cap d w hH hsz hcap
open Go.RowKit Go.Lib Go.Sort in
theorem slices_Compact_int (blk off cap : Nat) (zs : List Int) (w : World) (hH : Holds (Value.int .i64) w blk off zs.toArray) (hsz : zs.length ≤ 9223372036854775807) (hcap : zs.length ≤ cap) :
    Calls Try.prog 27 #[.slice (some ⟨blk, off, none⟩) zs.length cap] w fun e w' => e = .returned (.slice (some ⟨blk, off, none⟩) (Lib.compact zs).length cap) ∧ ∃ q, w' = putRow (Value.int .i64) (Sort.ahead w q) blk off (Lib.compact zs ++ List.replicate (zs.length - (Lib.compact zs).length) 0).toArray := Any.slices_Compact_int laysNm220 blk off cap zs w hH hsz hcap
open Go.RowKit Go.Lib Go.Sort in
theorem slices_Compact_int_empty (a : Option Addr) (cap : Nat) (w : World) :
    Calls Try.prog 27 #[.slice a 0 cap] w fun e w' => e = .returned (.slice a 0 cap) ∧ w' = w := Any.slices_Compact_int_empty laysNm220 a cap w
open Go.RowKit Go.Sort in
theorem slices_Sort_int_none (p : Option Addr) (cap : Nat) (w : World) :
    Calls Try.prog 25 #[.slice p 0 cap] w fun e w' => e = .returned (.tuple #[]) ∧ w' = w := Any.slices_Sort_int_none lays189 p cap w

open Go.RowKit Go.Lib Go.Sort

theorem vals_i64' (xs : List Int) : xs.flatMap (FT.vals .i64) = xs.map (Value.int .i64) := (List.map_eq_flatMap (f := Value.int .i64) (l := xs)).symm
theorem size_putRow' {α : Type} [Inhabited α] (enc : α → Value) (w : World) (blk off : Nat) (d : Array α) : (putRow enc w blk off d).heap.size = w.heap.size := by simp [putRow, mapBlock]
/-- The row's cells behind a write from its head on. -/
theorem put_own {w : World} {b : Nat} {e : TypeId} {cap : Nat} {cur : Array Value} (hg : w.heap[b]? = some (.cells cur e (0, 0))) (hsz : cur.size = cap) (hmax : cap ≤ maxLen) {ys : List Int} (hys : ys.length ≤ cap) (q : Nat) (os : Array Obj) {n : Nat} (hn : n ≤ ys.length) (D : Nat → Prop) (σ : Sig) :
    Moved w (grow (putRow (Value.int .i64) (Go.Sort.ahead w q) b 0 ys.toArray) os) (fun k => k ∈ [b]) ∧ OwnRel (grow (putRow (Value.int .i64) (Go.Sort.ahead w q) b 0 ys.toArray) os) D σ (.sl e .i64 (ys.take n)) (.slice (some ⟨b, 0, none⟩) n cap) [b] := by
  have hblk : b < w.heap.size := (Array.getElem?_eq_some_iff.1 hg).1
  have hheap : ∀ k, k < w.heap.size → (grow (putRow (Value.int .i64) (Go.Sort.ahead w q) b 0 ys.toArray) os).heap[k]? = if k = b then some (.cells (putCells (Value.int .i64) 0 ys.toArray cur) e (0, 0)) else w.heap[k]? := by
    intro k hk
    unfold grow
    show ((putRow (Value.int .i64) (Go.Sort.ahead w q) b 0 ys.toArray).heap ++ os)[k]? = _
    rw [Array.getElem?_append_left (by rw [size_putRow']; exact hk)]
    unfold putRow mapBlock Go.Sort.ahead
    rw [Array.getElem?_modify]
    by_cases e1 : b = k
    · subst e1; rw [if_pos rfl, if_pos rfl, hg]; rfl
    · rw [if_neg e1, if_neg (fun h => e1 h.symm)]
  refine ⟨⟨fun k hk hkb => ?_, ?_, rfl, rfl, rfl, ?_⟩, ⟨⟨?_, .inr ⟨b, cap, _, ?_, Nat.zero_le _, (by rw [hheap b hblk, if_pos rfl]), ?_, hmax, ?_, ?_⟩⟩, rfl⟩⟩
  · rw [hheap k hk, if_neg (fun h => hkb (by rw [h]; simp))]
  · unfold grow
    show w.heap.size ≤ ((putRow (Value.int .i64) (Go.Sort.ahead w q) b 0 ys.toArray).heap ++ os).size
    rw [Array.size_append, size_putRow']
    show w.heap.size ≤ w.heap.size + _
    omega
  · show w.drawn ≤ w.drawn + q
    omega
  · rw [vals_i64', List.length_map]; simp [FT.size]
  · rw [List.length_take, Nat.min_eq_left hn]
  · rw [List.length_take]; omega
  · simp only [putCells, Array.size_mapIdx, FT.size, Nat.mul_one]; exact hsz
  · rw [vals_i64', List.length_take, Nat.min_eq_left hn, FT.size, Nat.mul_one]
    apply List.ext_getElem?
    intro k
    rw [List.getElem?_take, List.getElem?_map, List.getElem?_take]
    by_cases hk : k < n
    · rw [if_pos hk, if_pos hk, Array.getElem?_toList, putCells, Array.getElem?_mapIdx, Array.getElem?_eq_getElem (by omega), Option.map_some, if_pos ⟨Nat.zero_le _, by simp; omega⟩, Nat.sub_zero, getElem!_pos _ k (by simp; omega), List.getElem?_eq_getElem (by omega)]
      simp
    · rw [if_neg hk, if_neg hk]; rfl

theorem callable_sort : Callable Try.prog 25 := ⟨_, Try.func25, by rfl, rfl⟩
theorem callable_compact : Callable Try.prog 27 := ⟨_, Try.func27, by rfl, rfl⟩
theorem callable_clip : Callable Try.prog 26 := ⟨_, Try.func26, by rfl, rfl⟩
def sortL (xs : List Int) : List Int := xs.mergeSort fun x y => decide (x ≤ y)
theorem sortL_len (xs : List Int) : (sortL xs).length = xs.length := List.length_mergeSort _

theorem clip_calls (ad : Option Addr) (n cap : Nat) (w : World) (h : n ≤ cap) (hm : cap ≤ maxLen) : Calls Try.prog 26 #[.slice ad n cap] w fun e w' => e = .returned (.slice ad n n) ∧ w' = w := by
  go_enter Try.func26, Try.ntmps26
  simp only [maxLen] at hm
  go_wp2
  go_ret
  exact ⟨rfl, rfl⟩
theorem holds_row {w : World} {b : Nat} {e : TypeId} {cur : Array Value} (hg : w.heap[b]? = some (.cells cur e (0, 0))) {xs : List Int} (htk : cur.toList.take xs.length = xs.map (Value.int .i64)) : Holds (Value.int .i64) w b 0 xs.toArray := by
  intro j hj
  have hj : j < xs.length := by simpa using hj
  refine ⟨?_, by simp [World.frozen?, hg]⟩
  have : (cur.toList.take xs.length)[j]? = (xs.map (Value.int .i64))[j]? := by rw [htk]
  rw [List.getElem?_take, if_pos hj, List.getElem?_map, Array.getElem?_toList, List.getElem?_eq_getElem hj] at this
  simp only [World.cell?, hg, Option.isSome_none, Bool.false_eq_true, if_false, Nat.zero_add]
  rw [this, getElem!_pos _ j (by simpa using hj)]
  simp

theorem compact_le (xs : List Int) : (compact xs).length ≤ xs.length := by
  unfold compact compactUpTo
  rw [List.length_map]
  exact Nat.le_trans (List.length_filter_le _ _) (by simp)

/-- slices.Sort on what is owned. -/
theorem hol_sorted {E : Env} (hP : E.P = Try.prog) {st : AState} {o : Oper} {k : Call} {i d r : Nat} {e : TypeId} {xs : List Int}
    (hg : o.guard = none) (ho : o.op = .call k) (hc : k.callee = .value (.func 25)) (ha : k.args.toList = [.tmp i]) (hd : o.dst = some d) (hdn : d < E.nt)
    (hi : look st.fr i = some (.sl r)) (hH : applyUps st.H noH r = some (.sl e .i64 xs)) (h62 : xs.length < 4611686018427387904) : HOL E [o] st ⟨(d, .junk) :: st.fr, (r, some (.sl e .i64 (sortL xs))) :: st.H, st.nx⟩ := by
  refine HOL.write hg ho hc (hP ▸ callable_sort) hd hdn ?_
  intro a w σ F
  obtain ⟨s, bs, hr, hown⟩ := F.heap r _ hH
  refine ⟨s, bs, hr, ?_⟩
  have hv1 : a.tmps.getD i undef = s := F.frame i _ hi σ (fun _ _ => rfl) s bs hr
  have hargs : k.args.toList.map a.eval = [s] := by
    rw [ha]; simp only [List.map_cons, List.map_nil, Act.eval]; rw [hv1]
  rw [hargs, hP]
  obtain ⟨hrow, hbs⟩ := hown σ (fun _ _ => rfl)
  by_cases hx : xs = []
  · subst hx
    have hv : ∃ ad cap, s = .slice ad 0 cap := by
      rcases hrow.2 with ⟨h1, _⟩ | ⟨b, cp, cur, h1, _⟩
      · exact ⟨none, 0, h1⟩
      · exact ⟨_, cp, h1⟩
    obtain ⟨ad, cap, rfl⟩ := hv
    refine Calls.mono (slices_Sort_int_none ad cap w) ?_
    rintro e' w' ⟨rfl, rfl⟩
    refine ⟨⟨_, rfl⟩, ⟨fun _ _ _ => rfl, Nat.le_refl _, rfl, rfl, rfl, Nat.le_refl _⟩, fun σ'' h'' => ?_⟩
    have : sortL [] = [] := List.eq_nil_of_length_eq_zero (by rw [sortL_len]; rfl)
    rw [this]
    exact hown σ'' h''
  · have hpos : 0 < xs.length := List.length_pos_iff.2 hx
    rcases hrow.2 with ⟨_, h2⟩ | ⟨b, cp, cur, rfl, _, hgb, hcp, hmax, hsz, htk⟩
    · omega
    simp only [FT.size, Nat.mul_one] at htk hsz
    rw [vals_i64'] at htk
    have hmx := hmax
    simp only [maxLen] at hmx
    refine Calls.mono (slices_Sort_int b 0 cp xs w (holds_row hgb htk) (Array.getElem?_eq_some_iff.1 hgb).1 (by omega)) ?_
    rintro e' w' ⟨rfl, q, os, rfl⟩
    have hl := sortL_len xs
    have hp := put_own hgb hsz hmax (ys := sortL xs) (by omega) q os (n := xs.length) (by omega)
    rw [List.take_of_length_le (by omega)] at hp
    have hbs' : bs = [b] := by rw [hbs]; rfl
    rw [hbs']
    exact ⟨⟨_, rfl⟩, (hp (E.D σ) σ).1, fun σ'' _ => (hp (E.D σ) σ'').2⟩

/-- slices.Compact and slices.Clip: what was owned is only read behind them. -/
theorem hol_compact {E : Env} (hP : E.P = Try.prog) {st : AState} {o1 o2 : Oper} {k1 k2 : Call} {i d1 d2 r : Nat} {e : TypeId} {xs : List Int}
    (hg1 : o1.guard = none) (ho1 : o1.op = .call k1) (hc1 : k1.callee = .value (.func 27)) (ha1 : k1.args.toList = [.tmp i]) (hd1 : o1.dst = some d1)
    (hg2 : o2.guard = none) (ho2 : o2.op = .call k2) (hc2 : k2.callee = .value (.func 26)) (ha2 : k2.args.toList = [.tmp d1]) (hd2 : o2.dst = some d2)
    (hn1 : d1 < E.nt) (hn2 : d2 < E.nt) (hf1 : look st.fr d1 = none)
    (hi : look st.fr i = some (.sl r)) (hH : applyUps st.H noH r = some (.sl e .i64 xs)) : HOL E [o1, o2] st ⟨(d2, .rs .i64 (compact xs)) :: st.fr, (r, none) :: st.H, st.nx⟩ := by
  intro a w F ops Q' rest hK
  obtain ⟨σ, F⟩ := F
  obtain ⟨s, bs, hr, hown⟩ := F.heap r _ hH
  have hv1 : a.tmps.getD i undef = s := F.frame i _ hi σ (fun _ _ => rfl) s bs hr
  have hargs : k1.args.toList.map a.eval = [s] := by
    rw [ha1]; simp only [List.map_cons, List.map_nil, Act.eval]; rw [hv1]
  obtain ⟨hrow, hbs⟩ := hown σ (fun _ _ => rfl)
  have hcl : (compact xs).length ≤ xs.length := compact_le xs
  -- the first call
  have hcall : ∃ ad cap, s = .slice ad xs.length cap ∧ (compact xs).length ≤ cap ∧ cap ≤ maxLen ∧ Calls Try.prog 27 #[s] w fun e' w' => e' = .returned (.slice ad (compact xs).length cap) ∧ ∃ ys, Moved w w' (fun k => k ∈ bs) ∧ (∀ σ'' : Sig, (∀ q, q < st.nx → σ'' q = σ q) → OwnRel w' (E.D σ) σ'' (.sl e .i64 ys) s bs) ∧
      ((compact xs) = [] ∨ ∃ b, ad = some ⟨b, 0, none⟩ ∧ b ∈ bs ∧ ∀ k (x : Int), (compact xs)[k]? = some x → w'.cell? ⟨b, k, none⟩ = some (.int .i64 x)) := by
    by_cases hx : xs = []
    · subst hx
      have hv : ∃ ad cap, s = .slice ad 0 cap ∧ cap ≤ maxLen := by
        rcases hrow.2 with ⟨h1, _⟩ | ⟨b, cp, cur, h1, _, _, _, hmx, _⟩
        · exact ⟨none, 0, h1, Nat.zero_le _⟩
        · exact ⟨_, cp, h1, hmx⟩
      obtain ⟨ad, cap, rfl, hmx⟩ := hv
      have hc0 : compact ([] : List Int) = [] := List.eq_nil_of_length_eq_zero (by have := compact_le ([] : List Int); simpa using this)
      refine ⟨ad, cap, rfl, by rw [hc0]; exact Nat.zero_le _, hmx, Calls.mono (slices_Compact_int_empty ad cap w) ?_⟩
      rintro e' w' ⟨rfl, rfl⟩
      refine ⟨by rw [hc0]; rfl, [], ⟨fun _ _ _ => rfl, Nat.le_refl _, rfl, rfl, rfl, Nat.le_refl _⟩, hown, .inl hc0⟩
    · have hpos : 0 < xs.length := List.length_pos_iff.2 hx
      rcases hrow.2 with ⟨_, h2⟩ | ⟨b, cp, cur, rfl, _, hgb, hcp, hmax, hsz, htk⟩
      · omega
      simp only [FT.size, Nat.mul_one] at htk hsz
      rw [vals_i64'] at htk
      have hmx := hmax
      simp only [maxLen] at hmx
      have hcp' : xs.length ≤ cp := hcp
      refine ⟨some ⟨b, 0, none⟩, cp, rfl, by omega, hmax, Calls.mono (slices_Compact_int b 0 cp xs w (holds_row hgb htk) (by omega) hcp') ?_⟩
      rintro e' w' ⟨rfl, q, rfl⟩
      have hbs' : bs = [b] := by rw [hbs]; rfl
      have hyl : (compact xs ++ List.replicate (xs.length - (compact xs).length) 0).length = xs.length := by rw [List.length_append, List.length_replicate]; omega
      have hp := put_own hgb hsz hmax (ys := compact xs ++ List.replicate (xs.length - (compact xs).length) 0) (by omega) q #[] (n := xs.length) (by omega)
      have hp2 := put_own hgb hsz hmax (ys := compact xs ++ List.replicate (xs.length - (compact xs).length) 0) (by omega) q #[] (n := (compact xs).length) (by omega)
      rw [grow_empty] at hp hp2
      rw [List.take_of_length_le (by omega)] at hp
      rw [List.take_left'] at hp2
      · refine ⟨rfl, compact xs ++ List.replicate (xs.length - (compact xs).length) 0, ?_, ?_, .inr ⟨b, rfl, by rw [hbs']; simp, fun k x hkx => ?_⟩⟩
        · rw [hbs']; exact (hp (E.D σ) σ).1
        · intro σ'' _; rw [hbs']; exact (hp (E.D σ) σ'').2
        · obtain ⟨⟨_, h3⟩, _⟩ := (hp2 (E.D σ) σ).2
          rcases h3 with ⟨h4, _⟩ | ⟨b2, cp2, cur2, h4, _, hg2', _, _, _, ht2⟩
          · cases h4
          · simp only [Value.slice.injEq, Option.some.injEq, Addr.mk.injEq, and_true] at h4
            obtain ⟨rfl, _, rfl⟩ := h4
            simp only [FT.size, Nat.mul_one] at ht2
            rw [vals_i64'] at ht2
            have hk : k < (compact xs).length := (List.getElem?_eq_some_iff.1 hkx).1
            have : (cur2.toList.take (compact xs).length)[k]? = ((compact xs).map (Value.int .i64))[k]? := by rw [ht2]
            rw [List.getElem?_take, if_pos hk, List.getElem?_map, hkx, Array.getElem?_toList] at this
            simp only [World.cell?, hg2', Option.isSome_none, Bool.false_eq_true, if_false]
            exact this
      · rfl
  obtain ⟨ad, cap, hs, hcc, hmx, hcalls⟩ := hcall
  show wpList E.P ops Q' (o1 :: (o2 :: rest)) a w
  refine wpList_plain hg1 fun K1 hK1 => ?_
  unfold Oper.wp
  rw [exec_call (caps := []) ho1 hc1 rfl (hP ▸ callable_compact), List.append_nil, hargs, hP]
  refine Calls.mono hcalls ?_
  rintro e' w1 ⟨rfl, ys, hm, hown1, hcells⟩
  rw [hP] at hK1
  refine hK1 _ _ ?_
  have F1 := F.write r s bs hr (fun k hk hkb => hm.block k hk hkb) hm.size hm.os hm.tape ⟨hm.output, hm.drawn⟩ (.sl e .i64 ys) (fun σ'' h'' => hown1 σ'' h'')
  have F2 := F1.drop r
  have F3 := F2.put d1 hn1 .junk (.slice ad (compact xs).length cap) (fun _ _ => trivial)
  rw [hd1]
  have hpg1 : ∀ (d : Nat) (v : Value) (a : Act), d < a.tmps.size → (a.put (some d) v).tmps.getD d undef = v := by
    intro d v a hq
    simp only [Act.put]
    rw [Array.getD_eq_getD_getElem?, Array.getElem?_setIfInBounds, if_pos rfl, if_pos hq]; rfl
  rw [← hP]
  refine wpList_plain hg2 fun K2 hK2 => ?_
  have hargs2 : k2.args.toList.map ((a.put (some d1) (.slice ad (compact xs).length cap)).eval) = [.slice ad (compact xs).length cap] := by
    rw [ha2]; simp only [List.map_cons, List.map_nil, Act.eval]
    rw [hpg1 d1 _ _ (by rw [F.tsz]; exact hn1)]
  unfold Oper.wp
  rw [exec_call (caps := []) ho2 hc2 rfl (hP ▸ callable_clip), List.append_nil, hargs2]
  have hcl2 := clip_calls ad (compact xs).length cap w1 hcc hmx
  rw [← hP] at hcl2
  refine Calls.mono hcl2 ?_
  rintro e' w2 ⟨rfl, rfl⟩
  have hrel : ∀ σ'' : Sig, RelV w2 (E.D (upd σ r none)) σ'' (.rs .i64 (compact xs)) (.slice ad (compact xs).length (compact xs).length) := by
    intro σ''
    rcases hcells with h | ⟨b, rfl, hb, hcell⟩
    · refine .inl ⟨h, ad, (compact xs).length, ?_⟩
      rw [h]; rfl
    · refine .inr ⟨b, 0, (compact xs).length, rfl, Nat.le_refl _, Nat.le_trans hcc hmx, ?_, fun k u hu => ?_⟩
      · rintro (⟨q, s', bs', h1, h2⟩ | h)
        · by_cases hq : q = r
          · rw [hq, upd_same] at h1; cases h1
          · rw [upd_ne _ _ hq] at h1
            exact F.disj q r s' bs' s bs h1 hr hq b h2 hb
        · have h3 := F.old b h
          rcases (F.lt r s bs hr b hb).2 with h4 | h4
          · omega
          · exact h3.2 h4
      · rw [vals_i64', List.getElem?_map, Option.map_eq_some_iff] at hu
        obtain ⟨x, hx, rfl⟩ := hu
        rw [Nat.zero_add]
        exact hcell k x hx
  have F4 := F3.put d2 hn2 (.rs .i64 (compact xs)) (.slice ad (compact xs).length (compact xs).length) (fun σ'' _ => hrel σ'')
  refine hK2 _ _ (hK _ _ ⟨upd σ r none, ?_⟩)
  rw [hd2]
  have e1 : look ((d2, AV.rs .i64 (compact xs)) :: st.fr) = upd (look st.fr) d2 (some (.rs .i64 (compact xs))) := look_cons_upd _ _ _
  have e2 : applyUps ((r, none) :: st.H) noH = upd (upd (applyUps st.H noH) r (some (.sl e .i64 ys))) r none := by
    rw [applyUps_drop]
    funext q
    by_cases hq : q = r
    · rw [hq, upd_same, upd_same]
    · rw [upd_ne _ _ hq, upd_ne _ _ hq, upd_ne _ _ hq]
  show Fits E (look ((d2, AV.rs .i64 (compact xs)) :: st.fr)) (applyUps ((r, none) :: st.H) noH) _ _ _ w2
  rw [e1, e2]
  refine F4.less (fun q x hq => ?_)
  by_cases h2 : q = d2
  · rw [h2, upd_same] at hq ⊢; exact hq
  · rw [upd_ne _ _ h2] at hq ⊢
    rw [upd_ne _ _ (fun h => by rw [h, hf1] at hq; cases hq)]
    exact hq
end Go.Proofs.Ytpiklifnbbhleaa
