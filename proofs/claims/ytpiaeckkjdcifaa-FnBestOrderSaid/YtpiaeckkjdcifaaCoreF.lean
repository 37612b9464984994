/- The core of the method, part F: one operation is sound (stores, append, literals). No condition. -/
import Derived.Test.YtpiaeckkjdcifaaCoreE
namespace Go.Proofs.Ytpiaeckkjdcifaa
set_option linter.unusedVariables false
set_option linter.unusedSimpArgs false
open Go

section
variable {E : Env} {fr : Nat → Option AV} {H : Nat → Option Own} {Kn : Nat → Prop} {σ : Sig} {a : Act} {w w' : World} {o : Oper} {nx : Nat}

/-- L with cs laid over it from off on. -/
def over {α : Type} (L : List α) (off : Nat) (cs : List α) : List α := L.take off ++ cs ++ L.drop (off + cs.length)
theorem over_get {α : Type} (L : List α) (off : Nat) (cs : List α) (h : off + cs.length ≤ L.length) (i : Nat) :
    (over L off cs)[i]? = if i < off then L[i]? else if i < off + cs.length then cs[i - off]? else L[i]? := by
  unfold over
  have hl : (L.take off).length = off := by simp; omega
  by_cases h1 : i < off
  · rw [if_pos h1, List.append_assoc, List.getElem?_append_left (by omega), List.getElem?_take, if_pos h1]
  · rw [if_neg h1]
    by_cases h2 : i < off + cs.length
    · rw [if_pos h2, List.append_assoc, List.getElem?_append_right (by omega), List.getElem?_append_left (by omega), hl]
    · rw [if_neg h2, List.getElem?_append_right (by simp; omega), List.getElem?_drop]
      congr 1; simp; omega
theorem over_len {α : Type} (L : List α) (off : Nat) (cs : List α) (h : off + cs.length ≤ L.length) : (over L off cs).length = L.length := by
  unfold over; simp; omega
theorem over_take {α : Type} (L : List α) (off N : Nat) (cs : List α) (h : off + cs.length ≤ N) (hN : N ≤ L.length) : (over L off cs).take N = over (L.take N) off cs := by
  apply List.ext_getElem?
  intro i
  rw [List.getElem?_take, over_get L off cs (by omega), over_get (L.take N) off cs (by rw [List.length_take]; omega)]
  by_cases hi : i < N
  · rw [if_pos hi, List.getElem?_take, if_pos hi]
  · rw [if_neg hi, if_neg (by omega), if_neg (by omega), List.getElem?_take, if_neg hi]
theorem over_one {α : Type} (L : List α) (off : Nat) (c : α) (h : off < L.length) : over L off [c] = L.set off c := by
  apply List.ext_getElem?
  intro i
  rw [over_get _ _ _ (by simp; omega), List.getElem?_set]
  by_cases h1 : i < off
  · rw [if_pos h1, if_neg (by omega)]
  · rw [if_neg h1]
    by_cases h2 : i = off
    · subst h2; simp [h]
    · rw [if_neg (by simp; omega), if_neg (by omega)]
theorem over_over {α : Type} (L : List α) (off k : Nat) (cs : List α) (c : α) (hk : k < cs.length) (h : off + cs.length ≤ L.length) (hs : ∀ j, j < cs.length → L[off + j]? = cs[j]?) : over L off (cs.set k c) = over L (off + k) [c] := by
  apply List.ext_getElem?
  intro i
  rw [over_get L off (cs.set k c) (by rw [List.length_set]; omega), over_get L (off + k) [c] (by simp; omega)]
  simp only [List.length_set, List.length_cons, List.length_nil]
  by_cases h1 : i < off
  · rw [if_pos h1, if_pos (by omega)]
  · rw [if_neg h1]
    by_cases h2 : i < off + cs.length
    · rw [if_pos h2, List.getElem?_set]
      have e : off + (i - off) = i := by omega
      by_cases h3 : k = i - off
      · rw [if_pos h3, if_pos hk, if_neg (by omega), if_pos (by omega), show i - (off + k) = 0 by omega]; rfl
      · rw [if_neg h3]
        have := hs (i - off) (by omega)
        rw [e] at this
        by_cases h4 : i < off + k
        · rw [if_pos h4, this]
        · rw [if_neg h4, if_neg (by omega), this]
    · rw [if_neg h2, if_neg (by omega), if_neg (by omega)]

theorem flat_set (τ : FT) (xs : List τ.T) (i : Nat) (x : τ.T) (hi : i < xs.length) : (xs.set i x).flatMap τ.vals = over (xs.flatMap τ.vals) (i * τ.size) (τ.vals x) := by
  have hp := size_pos τ
  have hb : i * τ.size + (τ.vals x).length ≤ (xs.flatMap τ.vals).length := by
    rw [flat_len, flat_length]
    have := Nat.mul_le_mul_right τ.size (Nat.succ_le_of_lt hi); rw [Nat.succ_mul] at this; exact this
  apply List.ext_getElem?
  intro j
  rw [over_get _ _ _ hb, flat_len]
  by_cases hj : j < xs.length * τ.size
  · have h1 : j / τ.size < xs.length := by rw [Nat.div_lt_iff_lt_mul hp]; exact hj
    have h2 : j / τ.size * τ.size + j % τ.size = j := by rw [Nat.mul_comm]; exact Nat.div_add_mod j τ.size
    have h3 := Nat.mod_lt j hp
    by_cases h4 : j / τ.size = i
    · have e1 := flat_get τ (xs.set i x) i (j % τ.size) x h3 (by simp [hi])
      rw [← h4, h2] at e1
      rw [h4] at e1
      rw [e1]
      rw [h4] at h2
      rw [if_neg (by omega), if_pos (by omega)]
      congr 1; omega
    · have hx := List.getElem?_eq_getElem h1
      have e1 := flat_get τ (xs.set i x) (j / τ.size) (j % τ.size) _ h3 (by rw [List.getElem?_set_ne (Ne.symm h4)]; exact hx)
      have e2 := flat_get τ xs (j / τ.size) (j % τ.size) _ h3 hx
      rw [h2] at e1 e2
      rw [e1, ← e2]
      by_cases h5 : j < i * τ.size
      · rw [if_pos h5]
      · rw [if_neg h5, if_neg]
        intro h6
        apply h4
        have : j / τ.size < i + 1 := by rw [Nat.div_lt_iff_lt_mul hp, Nat.succ_mul]; exact h6
        have : i ≤ j / τ.size := by rw [Nat.le_div_iff_mul_le hp]; omega
        omega
  · rw [List.getElem?_eq_none (by rw [flat_length]; simp; omega)]
    rw [if_neg (by have := flat_length τ xs; rw [flat_len] at hb; omega), if_neg (by have := flat_length τ xs; rw [flat_len] at hb; omega), List.getElem?_eq_none (by rw [flat_length]; omega)]

theorem run_store_gen {P : Program} {t : TypeId} {n : Nat} (ht : (Go.sizeOf t).run P w = .ok n w) {v : Value} (vs : List Value) (hv : v.cells.toList = vs) (hn : vs.length = n) (h1 : ∀ u ∈ vs, u.oneCell' = true) (g off : Nat) (cur : Array Value) (e : TypeId)
    (hg : w.heap[g]? = some (.cells cur e (0, 0))) (hb : off + vs.length ≤ cur.size) : (storeVar t ⟨g, off, none⟩ v).run P w = .ok () (w.setRow g (over cur.toList off vs).toArray) := by
  have hst := run_storeCells_at P g off e vs 0 cur w hg (by simpa using hb) h1
  simp only [Nat.add_zero] at hst
  have hc : v.cells.size = n := by rw [← hn, ← hv, Array.length_toList]
  simp [storeVar, ht, hc, hv, hst, over]

theorem RelL.set {D : Nat → Prop} {σ' : Sig} : ∀ {cs : List AV} {us : List Value} (k : Nat) (x : AV) (v : Value), RelL w D σ' cs us → RelV w D σ' x v → RelL w D σ' (cs.set k x) (us.set k v)
  | [], us, k, x, v, h, _ => by have h : us = [] := h; subst h; simp [RelL]
  | c :: cs, _, 0, x, v, ⟨u, us', hv, _, hl⟩, hx => by subst hv; exact ⟨v, us', rfl, hx, hl⟩
  | c :: cs, _, k + 1, x, v, ⟨u, us', hv, hc, hl⟩, hx => by subst hv; exact ⟨u, us'.set k v, rfl, hc, RelL.set k x v hl hx⟩

theorem setRow_old (w : World) (g k : Nat) (cs : Array Value) (h : k ≠ g) : (w.setRow g cs).heap[k]? = w.heap[k]? := setRow_other w g k cs h

/-- A store into what is owned. -/
theorem good_store (F : Fits E fr H Kn σ a w) {t : TypeId} {x y : Operand} (ho : o.op = .store t x y) {r : Nat} {s : Value} {bs : List Nat} (hr : σ r = some (s, bs)) {g off : Nat} (hg : g ∈ bs) (hx : a.eval x = .pointer (some ⟨g, off, none⟩)) (cs : Array Value)
    (hst : (storeVar t ⟨g, off, none⟩ (a.eval y)).run E.P w = .ok () (w.setRow g cs)) (own : Own) (hown : ∀ σ'' : Sig, (∀ q, Kn q → σ'' q = σ q) → OwnRel (w.setRow g cs) (E.D σ) σ'' own s bs) {vc : Prop} :
    Good E fr H Kn a w o nx ⟨.junk, [(r, some own)], 0, vc⟩ := by
  refine ⟨undef, w.setRow g cs, σ, .inr ⟨?_, rfl⟩, ?_, fun _ _ => trivial⟩
  · simp only [execOp, ho, Instr.storeAt, hx, Instr.sureAddr]
    simp [hst]
  · simp only [ups1, kn0]
    exact F.write r s bs hr (fun k _ hk => setRow_old w g k cs (fun e => hk (by rw [e]; exact hg))) (by simp) rfl rfl ⟨rfl, Nat.le_refl _⟩ own hown

theorem Fits.stab_write (F : Fits E fr H Kn σ a w) {r : Nat} {s : Value} {bs : List Nat} (hr : σ r = some (s, bs)) {g : Nat} (hg : g ∈ bs) (cs : Array Value) (σ'' : Sig) : Stab w (E.D σ) σ'' (w.setRow g cs) (E.D σ) σ'' :=
  ⟨fun ad v hc hD => by
    have : ad.block ≠ g := fun e => hD (.inl ⟨r, s, bs, hr, by rw [e]; exact hg⟩)
    rw [World.cell?_of_block (setRow_old w g _ cs this)]; exact hc, fun _ h _ => h, fun _ => .inl rfl⟩

theorem good_store_op (F : Fits E fr H Kn σ a w) {t : TypeId} {d : TD} (hT : TyOK E.P t d) {x y : Operand} (ho : o.op = .store t x y) {r off : Nat} {cs : List AV} {z : AV} (hx : Knows E Kn σ w (.op r off) (a.eval x)) (hy : Knows E Kn σ w z (a.eval y)) (hH : H r = some (.var cs))
    (hoff : off < cs.length) (hd : d.size = 1) (hc1 : cell1 z = true) {vc : Prop} : Good E fr H Kn a w o nx ⟨.junk, [(r, some (.var (cs.set off z)))], 0, vc⟩ := by
  obtain ⟨s, bs, h1, h2⟩ := F.heap r _ hH
  obtain ⟨b, hs', hv⟩ := hx.self s bs h1
  obtain ⟨b0, t0, cur, h3, h4, h5, h6, h7⟩ := h2 σ (fun _ _ => rfl)
  rw [hs'] at h3; simp only [Value.pointer.injEq, Option.some.injEq, Addr.mk.injEq, and_true] at h3; subst h3
  have hone := cell1_one hc1 hy.self
  have hlen := h6.length
  have hcs : (over cur.toList off [a.eval y]) = cur.toList.set off (a.eval y) := over_one _ _ _ (by simp at hlen ⊢; omega)
  refine good_store F ho h1 (g := b) (by simp [h4]) hv (over cur.toList off [a.eval y]).toArray ?_ _ ?_
  · exact run_store_gen (hT.sizeOf w) [a.eval y] (by rw [one_cells hone]) (by simp [hd]) (by simpa using hone) b off cur t0 h5 (by simp at hlen ⊢; omega)
  · intro σ'' h''
    obtain ⟨b1, t1, cur1, h31, h41, h51, h61, h71⟩ := h2 σ'' h''
    rw [hs'] at h31; simp only [Value.pointer.injEq, Option.some.injEq, Addr.mk.injEq, and_true] at h31; subst h31
    rw [h5] at h51; simp only [Option.some.injEq, Obj.cells.injEq, and_true] at h51; obtain ⟨rfl, rfl⟩ := h51
    refine ⟨b, t0, _, hs', h4, setRow_heap w b cur _ t0 _ h5, ?_, ?_⟩
    · rw [hcs]
      simp only [List.toList_toArray]
      exact RelL.stab (F.stab_write h1 (by simp [h4]) _ σ'') _ _ (RelL.set off z _ h61 (hy σ'' h''))
    · rw [hcs]
      intro u hu
      simp only [List.toList_toArray] at hu
      rcases List.mem_or_eq_of_mem_set hu with hu | rfl
      · exact h71 u hu
      · exact hone

theorem good_store_ops (F : Fits E fr H Kn σ a w) {t : TypeId} {d : TD} (hT : TyOK E.P t d) {x y : Operand} (ho : o.op = .store t x y) {r : Nat} {cs fs : List AV} (hx : Knows E Kn σ w (.op r 0) (a.eval x)) (hy : Knows E Kn σ w (.agg fs) (a.eval y)) (hH : H r = some (.var cs))
    (hl : fs.length = cs.length) (hd : cs.length = d.size) (hc1 : fs.all cell1 = true) {vc : Prop} : Good E fr H Kn a w o nx ⟨.junk, [(r, some (.var fs))], 0, vc⟩ := by
  obtain ⟨s, bs, h1, h2⟩ := F.heap r _ hH
  obtain ⟨b, hs', hv⟩ := hx.self s bs h1
  obtain ⟨b0, t0, cur, h3, h4, h5, h6, h7⟩ := h2 σ (fun _ _ => rfl)
  rw [hs'] at h3; simp only [Value.pointer.injEq, Option.some.injEq, Addr.mk.injEq, and_true] at h3; subst h3
  obtain ⟨us, hy1, hy2⟩ := hy.self
  have hones := RelL.ones hc1 hy2
  have hlen := h6.length
  have hlen2 := hy2.length
  have hov : over cur.toList 0 us = us := by
    unfold over
    rw [List.take_zero, List.nil_append, List.drop_eq_nil_of_le (by simp at hlen ⊢; omega), List.append_nil]
  refine good_store F ho h1 (g := b) (by simp [h4]) hv (over cur.toList 0 us).toArray ?_ _ ?_
  · exact run_store_gen (hT.sizeOf w) us (by rw [hy1]; simp [Value.cells]) (by omega) hones b 0 cur t0 h5 (by simp at hlen ⊢; omega)
  · intro σ'' h''
    obtain ⟨us', hy1', hy2'⟩ := hy σ'' h''
    rw [hy1] at hy1'; have hy1' : us = us' := by simpa using hy1'
    subst hy1'
    refine ⟨b, t0, _, hs', h4, setRow_heap w b cur _ t0 _ h5, ?_, ?_⟩
    · rw [hov]
      exact RelL.stab (F.stab_write h1 (by simp [h4]) _ σ'') _ _ hy2'
    · rw [hov]; simpa using hones

theorem ownsRow_over {e : TypeId} {z n cap g : Nat} {L : List Value} {cur : Array Value} (hown : w.ownsRow 0 e z (.slice (some ⟨g, 0, none⟩) n cap) n L) (hg : w.heap[g]? = some (.cells cur e (0, 0))) (off : Nat) (vs : List Value) (hb : off + vs.length ≤ n * z) :
    (w.setRow g (over cur.toList off vs).toArray).ownsRow 0 e z (.slice (some ⟨g, 0, none⟩) n cap) n (over L off vs) ∧ off + vs.length ≤ cur.size := by
  rcases hown.2 with ⟨h', _⟩ | ⟨g', cap', cur', h', hb0, hg', hnc, hcm, hcs, htake⟩
  · simp at h'
  · simp only [Value.slice.injEq, Option.some.injEq, Addr.mk.injEq, and_true, true_and] at h'
    obtain ⟨rfl, rfl⟩ := h'
    rw [hg] at hg'; simp only [Option.some.injEq, Obj.cells.injEq, and_true] at hg'; subst hg'
    have hnz : n * z ≤ cur.size := by rw [hcs]; exact Nat.mul_le_mul_right _ hnc
    refine ⟨⟨by rw [over_len _ _ _ (by rw [hown.1]; exact hb)]; exact hown.1, .inr ⟨g, cap, _, rfl, hb0, setRow_heap w g cur _ e _ hg, hnc, hcm, ?_, ?_⟩⟩, by omega⟩
    · simp only [List.size_toArray]; rw [over_len _ _ _ (by simp; omega)]; simpa using hcs
    · simp only [List.toList_toArray]
      rw [over_take _ _ _ _ hb (by simp; omega), htake]

theorem own_block {e : TypeId} {z m : Nat} {us : List Value} {s : Value} {b n cap : Nat} (h : w.ownsRow 0 e z s m us) (hs : s = .slice (some ⟨b, 0, none⟩) n cap) : ∃ cur, w.heap[b]? = some (.cells cur e (0, 0)) := by
  subst hs
  rcases h.2 with ⟨h1, _⟩ | ⟨g, cap', cur, h1, _, h2, _⟩
  · cases h1
  · simp only [Value.slice.injEq, Option.some.injEq, Addr.mk.injEq, and_true] at h1; rw [h1.1]; exact ⟨cur, h2⟩

/-- A store of an element, or of a field of it, of an owned slice. -/
theorem good_store_oe (F : Fits E fr H Kn σ a w) {t : TypeId} {d : TD} (hT : TyOK E.P t d) {x y : Operand} (ho : o.op = .store t x y) {r k : Nat} {i : Int} {e : TypeId} {τ : FT} {xs : List τ.T} {u : τ.T} (hx : Knows E Kn σ w (.oe r τ.size i k) (a.eval x)) (hH : H r = some (.sl e τ xs))
    (vs : List Value) (hv : (a.eval y).cells.toList = vs) (hd : vs.length = d.size) (h1 : ∀ v ∈ vs, v.oneCell' = true) (hk : k + vs.length ≤ τ.size)
    (hu : i.toNat < xs.length → over (xs.flatMap τ.vals) (i.toNat * τ.size + k) vs = (xs.set i.toNat u).flatMap τ.vals) {vc : Prop} : Good E fr H Kn a w o nx ⟨.junk, [(r, some (.sl e τ (xs.set i.toNat u)))], 0, vc⟩ := by
  obtain ⟨s, bs, hs1, h2⟩ := F.heap r _ hH
  obtain ⟨b, n, cap, hs', hvx, hi0, hin⟩ := hx.self s bs hs1
  obtain ⟨hown, hbs⟩ := h2 σ (fun _ _ => rfl)
  have hn := own_len hown hs'
  obtain ⟨cur, hg⟩ := own_block hown hs'
  subst hs'
  subst hn
  have hilt : i.toNat < xs.length := by omega
  have hle : i.toNat * τ.size + k + vs.length ≤ xs.length * τ.size := by
    have := Nat.mul_le_mul_right τ.size (Nat.succ_le_of_lt hilt); rw [Nat.succ_mul] at this; omega
  obtain ⟨ho1, ho2⟩ := ownsRow_over hown hg (i.toNat * τ.size + k) vs hle
  refine good_store F ho hs1 (g := b) (by rw [hbs]; simp [Value.blk]) hvx _ (run_store_gen (hT.sizeOf w) vs hv hd h1 b _ cur e hg ho2) _ ?_
  intro σ'' _
  refine ⟨?_, hbs⟩
  rw [List.length_set, ← hu hilt]; exact ho1

theorem good_store_oer (F : Fits E fr H Kn σ a w) {t : TypeId} {d : TD} (hT : TyOK E.P t d) {x y : Operand} (ho : o.op = .store t x y) {r : Nat} {i : Int} {e : TypeId} {xss : List (List Int)} {ys : List Int} (hx : Knows E Kn σ w (.oe r 1 i 0) (a.eval x)) (hH : H r = some (.rows e xss))
    (hy : Knows E Kn σ w (.rs .i64 ys) (a.eval y)) (hd : d.size = 1) {vc : Prop} : Good E fr H Kn a w o nx ⟨.junk, [(r, some (.rows e (xss.set i.toNat ys)))], 0, vc⟩ := by
  obtain ⟨s, bs, hs1, h2⟩ := F.heap r _ hH
  obtain ⟨b, n, cap, hs', hvx, hi0, hin⟩ := hx.self s bs hs1
  obtain ⟨us, hown, hbs, hone, hrow⟩ := h2 σ (fun _ _ => rfl)
  have hn := own_len hown hs'
  obtain ⟨cur, hg⟩ := own_block hown hs'
  subst hs'
  subst hn
  have hone1 : (a.eval y).oneCell' = true := cell1_one (x := .rs .i64 ys) rfl hy.self
  have hul : us.length = xss.length := by have := hown.1; simpa using this
  have hilt : i.toNat < xss.length := by omega
  obtain ⟨ho1, ho2⟩ := ownsRow_over hown hg (i.toNat * 1 + 0) [a.eval y] (by simp; omega)
  refine good_store F ho hs1 (g := b) (by rw [hbs]; simp [Value.blk]) hvx _ (run_store_gen (hT.sizeOf w) [a.eval y] (by rw [one_cells hone1]) (by simp [hd]) (by simpa using hone1) b _ cur e hg ho2) _ ?_
  intro σ'' h''
  have hS := F.stab_write hs1 (g := b) (by rw [hbs]; simp [Value.blk]) (over cur.toList (i.toNat * 1 + 0) [a.eval y]).toArray σ
  refine ⟨over us (i.toNat * 1 + 0) [a.eval y], by rw [List.length_set]; exact ho1, hbs, ?_, ?_⟩
  · rw [over_one _ _ _ (by omega)]
    intro u hu
    rcases List.mem_or_eq_of_mem_set hu with hu | rfl
    · exact hone u hu
    · exact hone1
  · intro j u xs hu hxs
    rw [over_one _ _ _ (by omega)] at hu
    simp only [Nat.mul_one, Nat.add_zero] at hu
    rw [List.getElem?_set] at hu hxs
    by_cases hj : i.toNat = j
    · rw [if_pos hj] at hu hxs
      rw [if_pos (by omega)] at hu hxs
      cases hu; cases hxs
      exact ROflat.stab hS hy.self
    · rw [if_neg hj] at hu hxs
      exact (hrow j u xs hu hxs).stab hS

end
end Go.Proofs.Ytpiaeckkjdcifaa
