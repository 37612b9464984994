/- The core of the method, part H: one operation is sound (struct and slice literals). No condition. -/
import Derived.Test.YtpiaeckkjdcifaaCoreG
namespace Go.Proofs.Ytpiaeckkjdcifaa
set_option linter.unusedVariables false
set_option linter.unusedSimpArgs false
open Go

section
variable {E : Env} {fr : Nat → Option AV} {H : Nat → Option Own} {Kn : Nat → Prop} {σ : Sig} {a : Act} {w w' : World} {o : Oper} {nx : Nat}

theorem mapM_of_get {α β : Type} (f : α → Option β) (g : Nat → β) : ∀ (xs : List α) (j : Nat), (∀ (k : Nat) (x : α), xs[k]? = some x → f x = some (g (j + k))) → xs.mapM f = some ((List.range' j xs.length).map g)
  | [], j, _ => by simp
  | x :: xs, j, h => by
    have h0 := h 0 x rfl
    have ih := mapM_of_get f g xs (j + 1) (fun k y hy => by have := h (k + 1) y (by simpa using hy); rw [this]; congr 2; omega)
    simp only [List.mapM_cons, h0, ih, Option.pure_def, Option.bind_eq_bind, Option.bind_some, List.length_cons, List.range'_succ, List.map_cons, Nat.add_zero]

theorem fill_one {place : Nat → Option (Nat × Nat)} {n : Nat} (hp : ∀ k, k < n → place k = some (k, 1)) {D : Nat → Prop} {σ' : Sig} : ∀ (ps : List (Nat × AV)) (vs : List Value) (cs fs : List AV) (cells : Array Value),
    setAll cs ps = some fs → RelL w D σ' (ps.map (·.2)) vs → cs.length = n → RelL w D σ' cs cells.toList → ∃ cells' : Array Value, Instr.fill place cells ((ps.map (·.1)).zip vs) = some cells' ∧ RelL w D σ' fs cells'.toList
  | [], vs, cs, fs, cells, h, hv, hn, hc => by
    have hv : vs = [] := hv
    subst hv
    simp only [setAll, Option.some.injEq] at h; subst h
    exact ⟨cells, rfl, hc⟩
  | (i, x) :: ps, vs, cs, fs, cells, h, hv, hn, hc => by
    obtain ⟨v, vs', rfl, hx, hl⟩ := hv
    simp only [setAll] at h
    split at h
    · rename_i hcond
      have hone := cell1_one hcond.2.1 hx
      have hsz := hc.length
      have hi : i < n := by omega
      obtain ⟨cells', h1, h2⟩ := fill_one hp ps vs' (cs.set i x) fs (cells.setIfInBounds i v) h hl (by simpa using hn) (by rw [Array.toList_setIfInBounds]; exact RelL.set i x v hc hx)
      refine ⟨cells', ?_, h2⟩
      have hb : ¬ (cells.size < i + 1) := by simp at hsz; omega
      simp [Instr.fill, hp i hi, one_cells hone, hb, h1]
    · cases h

theorem good_build (F : Fits E fr H Kn σ a w) {t : TypeId} {d : TD} (hT : TyOK E.P t d) (hs : d.kd = .str) {ps : Array (Nat × Operand)} {ys fs : List AV} (ho : o.op = .build t ps) (hl : KnowsL E Kn σ w ys (ps.toList.map fun p => a.eval p.2))
    (hset : setAll (d.zeroV.cells.toList.map ofVal) ((ps.toList.map (·.1)).zip ys) = some fs) (hone : d.zeroV.cells.toList.all oneV = true) : Good E fr H Kn a w o nx ⟨.agg fs, [], 0, True⟩ := by
  have h3 := hT.2.2; simp only [hs] at h3
  obtain ⟨fields, hu, hn, hf⟩ := str_fields h3
  obtain ⟨it, hit, hz, hsz, _⟩ := infoOf_some hT.1
  have hplaces : fields.toList.mapM (fun f => (E.P.info? f.type).map fun i => (f.offset, i.size)) = some ((List.range' 0 fields.toList.length).map fun k => (k, 1)) := by
    refine mapM_of_get _ (fun k => (k, 1)) fields.toList 0 (fun k f hk => ?_)
    obtain ⟨h4, i, u, hi, h5, _⟩ := hf k f (by simpa using hk)
    simp [hi, h4, h5]
  have hlen := (hl σ fun _ _ => rfl).length
  have hz1 : ((ps.toList.map (·.1)).zip ys).map (·.2) = ys := by
    rw [List.map_snd_zip]; simp at hlen ⊢; omega
  have hz2 : ((ps.toList.map (·.1)).zip ys).map (·.1) = ps.toList.map (·.1) := by
    rw [List.map_fst_zip]; simp at hlen ⊢; omega
  have hz3 : (ps.toList.map (·.1)).zip (ps.toList.map fun p => a.eval p.2) = (ps.map fun p => (p.1, a.eval p.2)).toList := by
    rw [List.zip_map']; simp
  have hp : ∀ k, k < d.size → (((List.range' 0 fields.toList.length).map fun k => (k, 1)).toArray[k]?) = some (k, 1) := by
    intro k hk
    have : k < fields.size := by omega
    simp [this]
  have hzl : (d.zeroV.cells.toList.map ofVal).length = d.size := by rw [List.length_map, Array.length_toList]; exact hT.2.1
  have key : ∀ σ' : Sig, (∀ r, Kn r → σ' r = σ r) → ∃ cells' : Array Value, E.P.built t (ps.map fun p => (p.1, a.eval p.2)).toList = some cells' ∧ RelL w (E.D σ) σ' fs cells'.toList := by
    intro σ' h'
    obtain ⟨cells', h4, h5⟩ := fill_one (w := w) (D := E.D σ) (σ' := σ') hp ((ps.toList.map (·.1)).zip ys) (ps.toList.map fun p => a.eval p.2) _ fs d.zeroV.cells hset (by rw [hz1]; exact hl σ' h') hzl (ofVals_rel _)
    rw [hz2, hz3] at h4
    refine ⟨cells', ?_, h5⟩
    unfold Program.built
    simp only [hit, hu, hz, hplaces]
    exact h4
  obtain ⟨cells', h4, _⟩ := key σ (fun _ _ => rfl)
  refine good_pure F (v := .agg cells') ?_ (fun σ'' h'' => ?_)
  · have := run_build w t (ps.map fun p => (p.1, a.eval p.2)) cells' h4
    simp only [execOp, ho]
    exact run_ok_value this
  · obtain ⟨cells2, h6, h7⟩ := key σ'' h''
    rw [h4] at h6; cases h6
    exact ⟨cells'.toList, by simp, h7⟩

theorem foldl_over (off : Nat) : ∀ (vs : List Value) (j : Nat) (cells : Array Value), off + j + vs.length ≤ cells.size →
    ((vs.zipIdx j).foldl (fun cs (p : Value × Nat) => cs.setIfInBounds (off + p.2) p.1) cells).toList = over cells.toList (off + j) vs
  | [], j, cells, _ => by simp [over]
  | v :: vs, j, cells, h => by
    simp only [List.length_cons] at h
    simp only [List.zipIdx_cons, List.foldl_cons]
    rw [foldl_over off vs (j + 1) _ (by simp; omega)]
    apply List.ext_getElem?
    intro i
    rw [over_get _ _ _ (by simp; omega), over_get _ _ _ (by simp; omega)]
    rw [Array.toList_setIfInBounds, List.getElem?_set]
    simp only [List.length_cons]
    by_cases h1 : i < off + j
    · rw [if_pos (by omega), if_neg (by omega), if_pos h1]
    · rw [if_neg h1]
      by_cases h2 : i = off + j
      · subst h2
        rw [if_pos (by omega), if_pos rfl, if_pos (by simp; omega), if_pos (by omega), Nat.sub_self]; rfl
      · by_cases h3 : i < off + j + (vs.length + 1)
        · rw [if_neg (by omega), if_pos (by omega), if_pos h3]
          rw [show i - (off + j) = (i - (off + (j + 1))) + 1 by omega]; rfl
        · rw [if_neg (by omega), if_neg (by omega), if_neg (by omega), if_neg h3]

theorem fill_flat (size : Nat) : ∀ (vs : List Value) (j : Nat) (c : Array Value), c.size = (j + vs.length) * size → (∀ v ∈ vs, v.cells.size = size) →
    Instr.fill (fun i => some (i * size, size)) c ((List.range' j vs.length).zip vs) = some (c.toList.take (j * size) ++ vs.flatMap fun v => v.cells.toList).toArray
  | [], j, c, hc, _ => by
    simp only [List.length_nil, Nat.add_zero] at hc
    simp only [List.length_nil, List.range'_zero, List.zip_nil_left, Instr.fill, List.flatMap_nil, List.append_nil]
    rw [List.take_of_length_le (by simp [hc])]
  | v :: vs, j, c, hc, hv => by
    have hv0 := hv v (by simp)
    simp only [List.length_cons] at hc
    have hle : j * size + size ≤ c.size := by rw [hc, show j + (vs.length + 1) = (j + 1) + vs.length by omega, Nat.add_mul (j + 1), Nat.add_mul j]; omega
    have ih := fill_flat size vs (j + 1) ((v.cells.zipIdx.foldl (fun cs (p : Value × Nat) => cs.setIfInBounds (j * size + p.2) p.1) c))
    have hf : (v.cells.zipIdx.foldl (fun cs (p : Value × Nat) => cs.setIfInBounds (j * size + p.2) p.1) c).toList = over c.toList (j * size) v.cells.toList := by
      rw [← Array.foldl_toList, Array.toList_zipIdx]
      exact foldl_over (j * size) v.cells.toList 0 c (by simp [hv0]; omega)
    have hfs : (v.cells.zipIdx.foldl (fun cs (p : Value × Nat) => cs.setIfInBounds (j * size + p.2) p.1) c).size = c.size := by
      rw [← Array.length_toList, hf, over_len _ _ _ (by simp [hv0]; omega), Array.length_toList]
    have ih2 := ih (by rw [hfs, hc]; congr 1; omega) (fun u hu => hv u (by simp [hu]))
    simp only [List.length_cons, List.range'_succ, List.zip_cons_cons, Instr.fill]
    have hn1 : ¬ c.size < j * size + size := by omega
    simp only [hv0, ne_eq, not_true_eq_false, decide_false, Bool.false_or, gt_iff_lt, hn1, Bool.false_eq_true, ↓reduceIte]
    rw [ih2, hf]
    congr 2
    rw [over_take _ _ _ _ (by simp [hv0, Nat.add_mul]) (by simp; rw [Nat.add_mul]; omega)]
    unfold over
    simp only [List.flatMap_cons, List.take_take, Array.length_toList, hv0]
    rw [Nat.min_eq_left (by rw [Nat.add_mul]; omega), List.drop_eq_nil_of_le (by simp; rw [Nat.add_mul]; omega)]
    simp

theorem of_sound {D : Nat → Prop} {σ' : Sig} (τ : FT) (y : AV) (x : τ.T) (v : Value) (h : FT.of τ y = some x) (hy : RelV w D σ' y v) : v.cells.toList = τ.vals x := by
  unfold FT.of at h
  split at h <;> simp only [Option.some.injEq, reduceCtorEq] at h
  · subst h; rw [show v = _ from hy]; rfl
  · subst h; rw [show v = _ from hy]; rfl
  · subst h
    obtain ⟨cs, rfl, v1, r1, rfl, h1, v2, r2, rfl, h2, v3, r3, rfl, h3, v4, r4, rfl, h4, v5, r5, rfl, h5, h6⟩ := hy
    rw [show v1 = _ from h1, show v2 = _ from h2, show v3 = _ from h3, show v4 = _ from h4, show v5 = _ from h5, show r5 = _ from h6]
    rfl
  · subst h
    obtain ⟨cs, rfl, v1, r1, rfl, h1, v2, r2, rfl, h2, h6⟩ := hy
    rw [show v1 = _ from h1, show v2 = _ from h2, show r2 = _ from h6]
    rfl

theorem elems_sound {D : Nat → Prop} {σ' : Sig} (τ : FT) : ∀ (ys : List AV) (xs : List τ.T) (vs : List Value), elems τ ys = some xs → RelL w D σ' ys vs → (∀ v ∈ vs, v.cells.size = τ.size) ∧ vs.flatMap (fun v => v.cells.toList) = xs.flatMap τ.vals ∧ xs.length = vs.length
  | [], xs, vs, h, hr => by
    have hr : vs = [] := hr
    subst hr; simp only [elems, Option.some.injEq] at h; subst h; simp
  | y :: ys, xs, vs, h, ⟨v, vs', hv, hy, hl⟩ => by
    subst hv
    simp only [elems] at h
    split at h
    · rename_i x xs' hx hxs
      simp only [Option.some.injEq] at h; subst h
      obtain ⟨h1, h2, h3⟩ := elems_sound τ ys xs' vs' hxs hl
      have hc := of_sound τ y x v hx hy
      refine ⟨?_, by simp [hc, h2], by simp [h3]⟩
      intro u hu
      rcases List.mem_cons.1 hu with rfl | hu
      · rw [← Array.length_toList, hc, flat_len]
      · exact h1 u hu
    · cases h

theorem run_buildSlice {P : Program} {t e : TypeId} {ie : TypeInfo} {z : Value} (ht : P.underlying t = some (.slice e)) (he : P.info? e = some ie) (hz : ie.zero = some z) (w : World) (n : Nat) (size : Nat) (hsz : ie.size = size) (hzs : z.cells.size = size) (hp : 0 < size) (hs5 : size ≤ 5) (hn : n ≤ 1000)
    (vs : List Value) (hv : ∀ v ∈ vs, v.cells.size = size) (hl : vs.length = n) (parts : Array (Nat × Value)) (hparts : parts.toList = (List.range' 0 n).zip vs) :
    (Instr.buildSlice t n parts).run P w = .ok (.slice (some ⟨w.heap.size, 0, none⟩) n n) (w.alloc (.cells (vs.flatMap fun v => v.cells.toList).toArray e)) := by
  have hmul : n * size ≤ 5000 := by
    have := Nat.mul_le_mul hn hs5; omega
  have hbig : ¬ (16777216 < n * size) := by omega
  have hfill : ∀ c : Array Value, c.size = n * size → Instr.fill (fun i => some (i * size, size)) c parts.toList = some (vs.flatMap fun v => v.cells.toList).toArray := by
    intro c hc
    rw [hparts, ← hl]
    rw [fill_flat size vs 0 c (by rw [hc, hl, Nat.zero_add]) hv]
    simp
  by_cases h0 : n * size = 0
  · have hf := hfill #[] (by rw [h0]; rfl)
    have e0 : Array.range 0 = #[] := rfl
    simp [Instr.buildSlice, run_underlying ht, Go.sizeOf, typeInfo, he, hsz, h0, e0, hf, newRow]
  · have hf := hfill ((Array.range (n * size)).map (z.cells[· % z.cells.size]!)) (by simp)
    simp [Instr.buildSlice, run_underlying ht, Go.sizeOf, typeInfo, he, hsz, h0, hf, hbig, zeroValue, hz, newRow]

theorem parts_zip (ps : Array (Nat × Operand)) (n : Nat) (hn : ps.toList.map (·.1) = List.range n) : (ps.map fun p => (p.1, a.eval p.2)).toList = (List.range' 0 n).zip (ps.toList.map fun p => a.eval p.2) := by
  rw [← List.range_eq_range', ← hn, List.zip_map']; simp

theorem good_buildSlice (F : Fits E fr H Kn σ a w) (hnx : ¬ Kn nx) {t e : TypeId} {d : TD} {τ : FT} (hT : TyOK E.P t d) (hk : d.kd = .sl e τ) {n : Nat} {ps : Array (Nat × Operand)} {ys : List AV} {xs : List τ.T} (ho : o.op = .buildSlice t n ps) (hl : KnowsL E Kn σ w ys (ps.toList.map fun p => a.eval p.2))
    (hps : ps.toList.map (·.1) = List.range n) (hn : n ≤ 1000) (hel : elems τ ys = some xs) {vc : Prop} : Good E fr H Kn a w o nx ⟨.sl nx, [(nx, some (.sl e τ xs))], 1, vc⟩ := by
  obtain ⟨hu, ie, hi, hz, hsz, hby⟩ := hT.slice hk
  obtain ⟨h1, h2, h3⟩ := elems_sound τ ys xs _ hel (hl σ fun _ _ => rfl)
  have hlen : ps.toList.length = n := by have := congrArg List.length hps; simpa using this
  have hs5 : τ.size ≤ 5 := by cases τ <;> decide
  have hrun := run_buildSlice hu hi hz w n τ.size hsz (zero_size τ) (size_pos τ) hs5 hn _ h1 (by simpa using hlen) (ps.map fun p => (p.1, a.eval p.2)) (parts_zip ps n hps)
  have hxl : xs.length = n := by rw [h3]; simpa using hlen
  have hw : ∀ (x : Obj) k, k < w.heap.size → (w.alloc x).heap[k]? = w.heap[k]? := fun x k hk' => alloc_old w x k hk'
  have hown := World.ownsRow_lit (base := 0) (e := e) (size := τ.size) w (ps.toList.map (fun p => a.eval p.2) |>.flatMap fun v => v.cells.toList).toArray n (Nat.zero_le _) (by simp only [maxLen]; omega) (by rw [h2]; simp only [List.size_toArray]; rw [flat_length, hxl])
  refine good_fresh F hnx (w' := w.alloc (.cells (ps.toList.map (fun p => a.eval p.2) |>.flatMap fun v => v.cells.toList).toArray e)) (v := .slice (some ⟨w.heap.size, 0, none⟩) n n) (.sl e τ xs) (.slice (some ⟨w.heap.size, 0, none⟩) n n) [w.heap.size] ?_ (hw _) (by simp) rfl rfl rfl (by simp) (fun σ'' _ => ⟨?_, rfl⟩) (fun _ _ h => h) ?_
  · simp only [execOp, ho]
    exact run_ok_value hrun
  · rw [hxl, ← h2]; simpa using hown
  · intro σ'' h'' s' bs' hs'
    rw [h''] at hs'; cases hs'; rfl

theorem rowsAV_sound {D : Nat → Prop} {σ' : Sig} : ∀ (ys : List AV) (xss : List (List Int)) (vs : List Value), rowsAV ys = some xss → RelL w D σ' ys vs →
    vs.length = xss.length ∧ (∀ v ∈ vs, v.oneCell' = true) ∧ ∀ (i : Nat) (u : Value) (xs : List Int), vs[i]? = some u → xss[i]? = some xs → ROflat w D .i64 xs u
  | [], xss, vs, h, hr => by
    have hr : vs = [] := hr
    subst hr; simp only [rowsAV, Option.some.injEq] at h; subst h; simp
  | y :: ys, xss, vs, h, ⟨v, vs', hv, hy, hl⟩ => by
    subst hv
    have key : ∀ (zs : List Int) (q : List (List Int)), rowsAV ys = some q → xss = zs :: q → ROflat w D .i64 zs v → 
        (v :: vs').length = xss.length ∧ (∀ u ∈ v :: vs', u.oneCell' = true) ∧ ∀ (i : Nat) (u : Value) (xs : List Int), (v :: vs')[i]? = some u → xss[i]? = some xs → ROflat w D .i64 xs u := by
      intro zs q hq e hz
      subst e
      obtain ⟨h1, h2, h3⟩ := rowsAV_sound ys q vs' hq hl
      refine ⟨by simp [h1], ?_, ?_⟩
      · intro u hu
        rcases List.mem_cons.1 hu with rfl | hu
        · exact cell1_one (x := .rs .i64 zs) (σ' := σ') rfl hz
        · exact h2 u hu
      · intro i u xs hu hx
        cases i with
        | zero =>
          simp only [List.getElem?_cons_zero, Option.some.injEq] at hu hx
          subst hu; subst hx; exact hz
        | succ i => exact h3 i u xs (by simpa using hu) (by simpa using hx)
    unfold rowsAV at h
    split at h
    · rename_i e; cases e
    · rename_i xs l e
      cases e
      rw [Option.map_eq_some_iff] at h; obtain ⟨q, hq, rfl⟩ := h
      exact key xs q hq rfl hy
    · rename_i l e
      cases e
      rw [Option.map_eq_some_iff] at h; obtain ⟨q, hq, rfl⟩ := h
      exact key [] q hq rfl (.inl ⟨rfl, none, 0, hy⟩)
    · cases h

theorem good_buildSliceR (F : Fits E fr H Kn σ a w) (hnx : ¬ Kn nx) {t e : TypeId} {d : TD} (hT : TyOK E.P t d) (hk : d.kd = .slr e) {n : Nat} {ps : Array (Nat × Operand)} {ys : List AV} {xss : List (List Int)} (ho : o.op = .buildSlice t n ps) (hl : KnowsL E Kn σ w ys (ps.toList.map fun p => a.eval p.2))
    (hps : ps.toList.map (·.1) = List.range n) (hn : n ≤ 1000) (hel : rowsAV ys = some xss) {vc : Prop} : Good E fr H Kn a w o nx ⟨.sl nx, [(nx, some (.rows e xss))], 1, vc⟩ := by
  obtain ⟨hu, ie, hi, hz, hsz, hby⟩ := hT.slicer hk
  have hlen : ps.toList.length = n := by have := congrArg List.length hps; simpa using this
  obtain ⟨h3, h1, h2⟩ := rowsAV_sound ys xss _ hel (hl σ fun _ _ => rfl)
  have hcells : ∀ v ∈ ps.toList.map (fun p => a.eval p.2), v.cells = #[v] := fun v hv => one_cells (h1 v hv)
  have hflat : ∀ (vs : List Value), (∀ v ∈ vs, v.cells = #[v]) → vs.flatMap (fun v => v.cells.toList) = vs := by
    intro vs hv
    induction vs with
    | nil => rfl
    | cons v vs ih =>
      rw [List.flatMap_cons, hv v (by simp), ih (fun u hu => hv u (by simp [hu]))]; rfl
  have hrun := run_buildSlice hu hi hz w n 1 hsz rfl (by decide) (by decide) hn _ (fun v hv => by rw [hcells v hv]; rfl) (by simpa using hlen) (ps.map fun p => (p.1, a.eval p.2)) (parts_zip ps n hps)
  have hxl : xss.length = n := by rw [← h3]; simpa using hlen
  rw [hflat _ hcells] at hrun
  have hw : ∀ (x : Obj) k, k < w.heap.size → (w.alloc x).heap[k]? = w.heap[k]? := fun x k hk' => alloc_old w x k hk'
  have hown := World.ownsRow_lit (base := 0) (e := e) (size := 1) w (ps.toList.map (fun p => a.eval p.2)).toArray n (Nat.zero_le _) (by simp only [maxLen]; omega) (by simpa using hlen)
  refine good_fresh F hnx (w' := w.alloc (.cells (ps.toList.map (fun p => a.eval p.2)).toArray e)) (v := .slice (some ⟨w.heap.size, 0, none⟩) n n) (.rows e xss) (.slice (some ⟨w.heap.size, 0, none⟩) n n) [w.heap.size] ?_ (hw _) (by simp) rfl rfl rfl (by simp) (fun σ'' _ => ?_) (fun _ _ h => h) ?_
  · simp only [execOp, ho]
    exact run_ok_value hrun
  · have hst := F.stab_fresh (w' := w.alloc (.cells (ps.toList.map (fun p => a.eval p.2)).toArray e)) (hw _) nx (.slice (some ⟨w.heap.size, 0, none⟩) n n) [w.heap.size] (by simp) σ''
    refine ⟨_, ?_, rfl, h1, fun i u xs hu hx => ?_⟩
    · rw [hxl]; simpa using hown
    · exact ROflat.stab hst (h2 i u xs hu hx)
  · intro σ'' h'' s' bs' hs'
    rw [h''] at hs'; cases hs'; rfl

end
end Go.Proofs.Ytpiaeckkjdcifaa
