/- The core of the method, part E: one operation is sound (memory that is made and written). No condition. -/
import Derived.Test.YtpiaeckkjdcifaaCoreD
namespace Go.Proofs.Ytpiaeckkjdcifaa
set_option linter.unusedVariables false
set_option linter.unusedSimpArgs false
open Go

section
variable {E : Env} {fr : Nat → Option AV} {H : Nat → Option Own} {Kn : Nat → Prop} {σ : Sig} {a : Act} {w w' : World} {o : Oper} {nx : Nat}

theorem stab_grow {D : Nat → Prop} (s : Sig) (hw : ∀ k, k < w.heap.size → w'.heap[k]? = w.heap[k]?) : Stab w D s w' D s :=
  ⟨fun ad v hc _ => by rw [World.cell?_of_block (hw _ (World.block_lt_of_cell? w ad hc))]; exact hc, fun _ h _ => h, fun _ => .inl rfl⟩

theorem Fits.stab_fresh (F : Fits E fr H Kn σ a w) (hw : ∀ k, k < w.heap.size → w'.heap[k]? = w.heap[k]?) (r : Nat) (s : Value) (bs : List Nat) (hbs : ∀ b ∈ bs, w.heap.size ≤ b) (σ'' : Sig) :
    Stab w (E.D σ) σ'' w' (E.D (upd σ r (some (s, bs)))) σ'' :=
  ⟨fun ad v hc _ => by rw [World.cell?_of_block (hw _ (World.block_lt_of_cell? w ad hc))]; exact hc, fun b h hb hD => by
    rcases hD with ⟨q, s', bs', h1, h2⟩ | hA
    · by_cases hq : q = r
      · rw [hq, upd_same] at h1; cases h1; have := hbs b h2; omega
      · rw [upd_ne _ _ hq] at h1; exact h (.inl ⟨q, s', bs', h1, h2⟩)
    · exact h (.inr hA), fun _ => .inl rfl⟩

theorem agree_old {r : Nat} (hr : ¬ Kn r) {x : Option (Value × List Nat)} {σ'' : Sig} (h : ∀ q, (Kn q ∨ q = r) → σ'' q = upd σ r x q) : ∀ q, Kn q → σ'' q = σ q := fun q hq => by
  rw [h q (.inl hq), upd_ne _ _ (fun e => hr (by rw [← e]; exact hq))]

theorem alloc_old (w : World) (x : Obj) (k : Nat) (h : k < w.heap.size) : (w.alloc x).heap[k]? = w.heap[k]? := by
  show (w.heap.push x)[k]? = _
  rw [Array.getElem?_push, if_neg (by omega)]

/-- A new owned thing, as a result. -/
theorem good_fresh (F : Fits E fr H Kn σ a w) (hr : ¬ Kn nx) {v : Value} {x : AV} {vc : Prop} (own : Own) (s : Value) (bs : List Nat) (hrun : (execOp a.eval o).run E.P w = .ok (.value v) w')
    (hw : ∀ k, k < w.heap.size → w'.heap[k]? = w.heap[k]?) (hsz : w.heap.size ≤ w'.heap.size) (hos : w'.os = w.os) (htape : w'.tape = w.tape) (hout : w'.output = w.output)
    (hbs : ∀ b ∈ bs, w.heap.size ≤ b ∧ b < w'.heap.size)
    (ho : ∀ σ'' : Sig, (∀ q, Kn q → σ'' q = σ q) → OwnRel w' (E.D (upd σ nx (some (s, bs)))) σ'' own s bs)
    (hcl : ∀ σ1 σ2 : Sig, OwnRel w' (E.D (upd σ nx (some (s, bs)))) σ1 own s bs → OwnRel w' (E.D (upd σ nx (some (s, bs)))) σ2 own s bs)
    (hx : ∀ σ'' : Sig, σ'' nx = some (s, bs) → RelV w' (E.D (upd σ nx (some (s, bs)))) σ'' x v) : Good E fr H Kn a w o nx ⟨x, [(nx, some own)], 1, vc⟩ := by
  refine ⟨v, w', upd σ nx (some (s, bs)), .inl hrun, ?_, ?_⟩
  · simp only [ups1, kn1]
    exact F.fresh hw hsz hos htape ⟨hout, run_drawn _ _ _ _ hrun⟩ nx hr own s bs hbs (fun σ'' => hcl σ σ'' (ho σ (fun _ _ => rfl)))
  · intro σ'' h''
    refine hx σ'' ?_
    have := h'' nx (.inr ⟨Nat.le_refl _, by simp⟩)
    rw [this, upd_same]

theorem cell1_one {D : Nat → Prop} {σ' : Sig} {x : AV} {v : Value} (h : cell1 x = true) (hx : RelV w D σ' x v) : v.oneCell' = true := by
  cases x <;> simp only [cell1, oneV, Bool.false_eq_true] at h
  case int n => rw [show v = _ from hx]; rfl
  case u8 n => rw [show v = _ from hx]; rfl
  case bool n => rw [show v = _ from hx]; rfl
  case val u => rw [show v = _ from hx]; exact h
  case nils => rw [show v = _ from hx]; rfl
  case rs τ xs => rcases hx with ⟨_, a', c', hv⟩ | ⟨b, off, cap, hv, _⟩ <;> rw [hv] <;> rfl
  case rows xss => rcases hx with ⟨_, a', c', hv⟩ | ⟨b, off, cap, us, hv, _⟩ <;> rw [hv] <;> rfl
  case rp cs => obtain ⟨_, b, off, us, hv, _⟩ := hx; rw [hv]; rfl
  case clo f cs => obtain ⟨us, hv, _⟩ := hx; rw [hv]; rfl
theorem one_cells {v : Value} (h : v.oneCell' = true) : v.cells = #[v] := by cases v <;> first | rfl | (simp [Value.oneCell'] at h)

theorem RelL.ones {D : Nat → Prop} {σ' : Sig} : ∀ {cs : List AV} {us : List Value}, cs.all cell1 = true → RelL w D σ' cs us → ∀ u ∈ us, u.oneCell' = true
  | [], us, _, h => by have h : us = [] := h; subst h; simp
  | c :: cs, us, hc, ⟨v, vs, hv, h1, h2⟩ => by
    simp only [List.all_cons, Bool.and_eq_true] at hc
    subst hv
    intro u hu
    rcases List.mem_cons.1 hu with rfl | hu
    · exact cell1_one hc.1 h1
    · exact RelL.ones hc.2 h2 u hu

theorem cells_rel {D : Nat → Prop} {σ' : Sig} {y : AV} {v : Value} (hc : (cellsAV y).all cell1 = true) (hx : RelV w D σ' y v) : RelL w D σ' (cellsAV y) v.cells.toList := by
  by_cases hy : ∃ fs, y = .agg fs
  · obtain ⟨fs, rfl⟩ := hy
    obtain ⟨cs, rfl, hl⟩ := hx
    simpa [cellsAV, Value.cells] using hl
  · have e : cellsAV y = [y] := by cases y <;> first | rfl | exact absurd ⟨_, rfl⟩ hy
    rw [e] at hc ⊢
    simp only [List.all_cons, List.all_nil, Bool.and_true] at hc
    rw [one_cells (cell1_one hc hx)]
    exact ⟨v, [], rfl, hx, rfl⟩

theorem good_box (F : Fits E fr H Kn σ a w) {t : TypeId} {x : Operand} {y : AV} (ho : o.op = .box t x) (hx : Knows E Kn σ w y (a.eval x)) (hc : (cellsAV y).all cell1 = true) (hne : 0 < (cellsAV y).length) :
    Good E fr H Kn a w o nx ⟨.rp (cellsAV y), [], 0, True⟩ := by
  refine ⟨.pointer (some ⟨w.heap.size, 0, none⟩), w.alloc (.cells (a.eval x).cells t), σ, .inl ?_, ?_, ?_⟩
  · simp only [execOp, ho]
    exact run_ok_value (by simp [Instr.box, newVar, newRow])
  · simp only [ups0, kn0]
    exact F.grow (fun k hk => alloc_old w _ k hk) (by simp) rfl rfl ⟨rfl, Nat.le_refl _⟩
  · intro σ'' h''
    have hl := cells_rel hc (hx σ'' (fun r hr => h'' r (.inl hr)))
    refine ⟨fun e => by rw [e] at hne; simp at hne, w.heap.size, 0, (a.eval x).cells.toList, rfl, F.notD _ (Nat.le_refl _), fun k u hu => ?_, RelL.stab (stab_grow σ'' (fun k hk => alloc_old w _ k hk)) _ _ hl⟩
    rw [World.cell?_alloc_at _ _ _ _ rfl, Nat.zero_add]
    simpa using hu

mutual
theorem RelV.clean {D : Nat → Prop} (σ1 σ2 : Sig) : ∀ (x : AV) (v : Value), cleanV x = true → RelV w D σ1 x v → RelV w D σ2 x v
  | .int _, _, _, h => h
  | .u8 _, _, _, h => h
  | .bool _, _, _, h => h
  | .val _, _, _, h => h
  | .junk, _, hc, _ => by simp [cleanV] at hc
  | .nils, _, _, h => h
  | .rs _ _, _, _, h => h
  | .rows _, _, _, h => h
  | .agg fs, _, hc, ⟨cs, hv, hl⟩ => ⟨cs, hv, RelL.clean σ1 σ2 fs cs (by simpa [cleanV] using hc) hl⟩
  | .tup fs, _, hc, ⟨cs, hv, hl⟩ => ⟨cs, hv, RelL.clean σ1 σ2 fs cs (by simpa [cleanV] using hc) hl⟩
  | .rp fs, _, hc, ⟨hne, b, off, us, hv, hD, hcl, hl⟩ => ⟨hne, b, off, us, hv, hD, hcl, RelL.clean σ1 σ2 fs us (by simpa [cleanV] using hc) hl⟩
  | .sl _, _, hc, _ => by simp [cleanV] at hc
  | .op _ _, _, hc, _ => by simp [cleanV] at hc
  | .oe _ _ _ _, _, hc, _ => by simp [cleanV] at hc
  | .clo f caps, _, hc, ⟨cs, hv, hl⟩ => ⟨cs, hv, RelL.clean σ1 σ2 caps cs (by simpa [cleanV] using hc) hl⟩
  | .when _ _, _, hc, _ => by simp [cleanV] at hc
theorem RelL.clean {D : Nat → Prop} (σ1 σ2 : Sig) : ∀ (xs : List AV) (vs : List Value), cleanL xs = true → RelL w D σ1 xs vs → RelL w D σ2 xs vs
  | [], _, _, h => h
  | x :: xs, _, hc, ⟨v, vs', hv, hx, hl⟩ => by
    simp only [cleanL, Bool.and_eq_true] at hc
    exact ⟨v, vs', hv, RelV.clean σ1 σ2 x v hc.1 hx, RelL.clean σ1 σ2 xs vs' hc.2 hl⟩
end
theorem OwnRel.clean {D : Nat → Prop} (σ1 σ2 : Sig) {own : Own} {s : Value} {bs : List Nat} (hc : cleanO own = true) (h : OwnRel w D σ1 own s bs) : OwnRel w D σ2 own s bs := by
  cases own with
  | sl e τ xs => exact h
  | rows e xss => exact h
  | mat e e' xss => exact h
  | var cs => obtain ⟨b, t, cur, h1, h2, h3, h4, h5⟩ := h; exact ⟨b, t, cur, h1, h2, h3, RelL.clean σ1 σ2 _ _ hc h4, h5⟩

theorem good_boxown (F : Fits E fr H Kn σ a w) (hr : ¬ Kn nx) {t : TypeId} {x : Operand} {y : AV} (ho : o.op = .box t x) (hx : Knows E Kn σ w y (a.eval x)) (hc : (cellsAV y).all cell1 = true) (hcl : cleanL (cellsAV y) = true) :
    Good E fr H Kn a w o nx ⟨.op nx 0, [(nx, some (.var (cellsAV y)))], 1, True⟩ := by
  have hw : ∀ k, k < w.heap.size → (w.alloc (.cells (a.eval x).cells t)).heap[k]? = w.heap[k]? := fun k hk => alloc_old w _ k hk
  refine good_fresh F hr (v := .pointer (some ⟨w.heap.size, 0, none⟩)) (.var (cellsAV y)) (.pointer (some ⟨w.heap.size, 0, none⟩)) [w.heap.size] ?_ hw (by simp) rfl rfl rfl (by simp) ?_ (fun s1 s2 h => OwnRel.clean s1 s2 hcl h) ?_
  · simp only [execOp, ho]
    exact run_ok_value (by simp [Instr.box, newVar, newRow])
  · intro σ'' h''
    have hl := cells_rel hc (hx σ'' h'')
    exact ⟨w.heap.size, t, (a.eval x).cells, rfl, rfl, heap_alloc_new w _, RelL.stab (F.stab_fresh hw nx _ _ (by simp) σ'') _ _ hl, RelL.ones hc hl⟩
  · intro σ'' h'' s bs hs
    rw [h''] at hs; cases hs; exact ⟨_, rfl, rfl⟩

theorem ofVal_rel {D : Nat → Prop} {σ' : Sig} (v : Value) : RelV w D σ' (ofVal v) v := by
  unfold ofVal; split <;> simp [RelV]
theorem ofVal_clean (v : Value) : cleanV (ofVal v) = true := by
  unfold ofVal; split <;> rfl
theorem ofVals_rel {D : Nat → Prop} {σ' : Sig} : ∀ vs : List Value, RelL w D σ' (vs.map ofVal) vs
  | [] => rfl
  | v :: vs => ⟨v, vs, rfl, ofVal_rel v, ofVals_rel vs⟩
theorem ofVals_clean : ∀ vs : List Value, cleanL (vs.map ofVal) = true
  | [] => rfl
  | v :: vs => by simp [cleanL, ofVal_clean, ofVals_clean vs]

theorem good_alloc (F : Fits E fr H Kn σ a w) (hr : ¬ Kn nx) {t : TypeId} {d : TD} (hT : TyOK E.P t d) (ho : o.op = .alloc t) (h1 : d.zeroV.cells.toList.all oneV = true) :
    Good E fr H Kn a w o nx ⟨.op nx 0, [(nx, some (.var (d.zeroV.cells.toList.map ofVal)))], 1, True⟩ := by
  obtain ⟨i, hi, hz, _, _⟩ := infoOf_some hT.1
  have hw : ∀ k, k < w.heap.size → (w.alloc (.cells d.zeroV.cells t)).heap[k]? = w.heap[k]? := fun k hk => alloc_old w _ k hk
  refine good_fresh F hr (v := .pointer (some ⟨w.heap.size, 0, none⟩)) _ (.pointer (some ⟨w.heap.size, 0, none⟩)) [w.heap.size] ?_ hw (by simp) rfl rfl rfl (by simp) ?_ (fun s1 s2 h => OwnRel.clean s1 s2 (ofVals_clean _) h) ?_
  · simp only [execOp, ho]
    exact run_ok_value (by simp [Instr.alloc, zeroValue, typeInfo, hi, hz, newVar, newRow])
  · intro σ'' h''
    exact ⟨w.heap.size, t, d.zeroV.cells, rfl, rfl, heap_alloc_new w _, ofVals_rel _, fun u hu => by simpa [oneV] using List.all_eq_true.1 h1 u hu⟩
  · intro σ'' h'' s bs hs
    rw [h''] at hs; cases hs; exact ⟨_, rfl, rfl⟩

theorem zero_cells (τ : FT) : τ.zeroV.cells.toList = τ.vals τ.dflt := by cases τ <;> rfl

theorem madeCells_get (z : Array Value) (n j : Nat) (hz : 0 < z.size) (hj : j < n) : (madeCells z n).toList[j]? = z.toList[j % z.size]? := by
  have hm : j % z.size < z.size := Nat.mod_lt _ hz
  simp [madeCells, hj, hm]

theorem replicate_flat (τ : FT) (n : Nat) : (madeCells τ.zeroV.cells (n * τ.size)).toList = (List.replicate n τ.dflt).flatMap τ.vals := by
  have hzs : τ.zeroV.cells.size = τ.size := by cases τ <;> rfl
  apply List.ext_getElem?
  intro j
  by_cases hj : j < n * τ.size
  · rw [madeCells_get _ _ _ (by rw [hzs]; exact size_pos τ) hj, zero_cells, hzs]
    have hp := size_pos τ
    have h1 : j / τ.size < n := by rw [Nat.div_lt_iff_lt_mul hp]; exact hj
    have h2 : j / τ.size * τ.size + j % τ.size = j := by rw [Nat.mul_comm]; exact Nat.div_add_mod j τ.size
    rw [← flat_get τ (List.replicate n τ.dflt) (j / τ.size) (j % τ.size) τ.dflt (Nat.mod_lt _ hp) (by simp [h1]), h2]
  · rw [List.getElem?_eq_none (by simp [size_madeCells]; omega), List.getElem?_eq_none (by rw [flat_length]; simp; omega)]

theorem good_make (F : Fits E fr H Kn σ a w) (hr : ¬ Kn nx) {t e : TypeId} {d : TD} {τ : FT} (hT : TyOK E.P t d) (hk : d.kd = .sl e τ) {l c : Operand} {n : Int} (ho : o.op = .makeSlice t l c) (hl : a.eval l = .int .i64 n) (hc : a.eval c = .int .i64 n) (h0 : 0 ≤ n) (h1 : n ≤ 1099511627776) {vc : Prop} :
    Good E fr H Kn a w o nx ⟨.sl nx, [(nx, some (.sl e τ (List.replicate n.toNat τ.dflt)))], 1, vc⟩ := by
  obtain ⟨hu, ie, hi, hz, hsz, hby⟩ := hT.slice hk
  have hb : ie.bytes ≤ 40 := by rw [hby]; cases τ <;> decide
  obtain ⟨w1, hrun, hown, hg⟩ := run_make_full (P := E.P) w 0 t e ie τ.zeroV τ.size hu hi hz hsz .i64 .i64 n.toNat (by
    have : ie.bytes * n.toNat ≤ 40 * 1099511627776 := Nat.mul_le_mul hb (by omega)
    omega) (by simp only [maxLen]; omega) (Nat.zero_le _)
  rw [Int.toNat_of_nonneg h0] at hrun
  have hw : ∀ k, k < w.heap.size → w1.heap[k]? = w.heap[k]? := fun k hk' => hg.block k hk' (by simp)
  have hlt : w.heap.size < w1.heap.size := by
    rcases hown.2 with ⟨h2, _⟩ | ⟨g, cap, cur, h2, _, h3, _⟩
    · cases h2
    · simp only [Value.slice.injEq, Option.some.injEq, Addr.mk.injEq, and_true, true_and] at h2
      rw [h2.1]; exact (Array.getElem?_eq_some_iff.1 h3).1
  refine good_fresh F hr (v := .slice (some ⟨w.heap.size, 0, none⟩) n.toNat n.toNat) _ (.slice (some ⟨w.heap.size, 0, none⟩) n.toNat n.toNat) [w.heap.size] ?_ hw hg.size hg.os hg.tape hg.output (by simp [hlt]) ?_ (fun _ _ h => h) ?_
  · simp only [execOp, ho, hl, hc]
    exact run_ok_value hrun
  · intro σ'' _
    refine ⟨?_, rfl⟩
    rw [List.length_replicate, ← replicate_flat]; exact hown
  · intro σ'' h'' s bs hs
    rw [h''] at hs; cases hs; rfl

theorem good_maker (F : Fits E fr H Kn σ a w) (hr : ¬ Kn nx) {t e : TypeId} {d : TD} (hT : TyOK E.P t d) (hk : d.kd = .slr e) {l c : Operand} {n : Int} (ho : o.op = .makeSlice t l c) (hl : a.eval l = .int .i64 n) (hc : a.eval c = .int .i64 n) (h0 : 0 ≤ n) (h1 : n ≤ 1099511627776) {vc : Prop} :
    Good E fr H Kn a w o nx ⟨.sl nx, [(nx, some (.rows e (List.replicate n.toNat [])))], 1, vc⟩ := by
  obtain ⟨hu, ie, hi, hz, hsz, hby⟩ := hT.slicer hk
  obtain ⟨w1, hrun, hown, hg⟩ := run_make_full (P := E.P) w 0 t e ie (.slice none 0 0) 1 hu hi hz hsz .i64 .i64 n.toNat (by rw [hby]; omega) (by simp only [maxLen]; omega) (Nat.zero_le _)
  rw [Int.toNat_of_nonneg h0] at hrun
  have hw : ∀ k, k < w.heap.size → w1.heap[k]? = w.heap[k]? := fun k hk' => hg.block k hk' (by simp)
  have hlt : w.heap.size < w1.heap.size := by
    rcases hown.2 with ⟨h2, _⟩ | ⟨g, cap, cur, h2, _, h3, _⟩
    · cases h2
    · simp only [Value.slice.injEq, Option.some.injEq, Addr.mk.injEq, and_true, true_and] at h2
      rw [h2.1]; exact (Array.getElem?_eq_some_iff.1 h3).1
  have hcells : (madeCells (Value.slice none 0 0).cells (n.toNat * 1)).toList = List.replicate n.toNat (.slice none 0 0) := by rw [Nat.mul_one]; exact toList_madeCells_one _ _
  rw [hcells] at hown
  refine good_fresh F hr (v := .slice (some ⟨w.heap.size, 0, none⟩) n.toNat n.toNat) _ (.slice (some ⟨w.heap.size, 0, none⟩) n.toNat n.toNat) [w.heap.size] ?_ hw hg.size hg.os hg.tape hg.output (by simp [hlt]) ?_ (fun _ _ h => h) ?_
  · simp only [execOp, ho, hl, hc]
    exact run_ok_value hrun
  · intro σ'' _
    refine ⟨_, by rw [List.length_replicate]; exact hown, rfl, ?_, ?_⟩
    · intro u hu'; rw [List.eq_of_mem_replicate hu']; rfl
    · intro i u xs hu' hxs
      have h2 := List.mem_of_getElem? hu'
      have h3 := List.mem_of_getElem? hxs
      rw [List.eq_of_mem_replicate h2, List.eq_of_mem_replicate h3]
      exact .inl ⟨rfl, none, 0, rfl⟩
  · intro σ'' h'' s bs hs
    rw [h''] at hs; cases hs; rfl

end
end Go.Proofs.Ytpiaeckkjdcifaa
