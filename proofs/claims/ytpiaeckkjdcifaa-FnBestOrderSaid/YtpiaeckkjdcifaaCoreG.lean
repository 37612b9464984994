/- The core of the method, part G: one operation is sound (append, literals, fields, functions, max and min). No condition. -/
import Derived.Test.YtpiaeckkjdcifaaCoreF
namespace Go.Proofs.Ytpiaeckkjdcifaa
set_option linter.unusedVariables false
set_option linter.unusedSimpArgs false
open Go

section
variable {E : Env} {fr : Nat → Option AV} {H : Nat → Option Own} {Kn : Nat → Prop} {σ : Sig} {a : Act} {w w' : World} {o : Oper} {nx : Nat}

theorem ownsRow_base {base base' : Nat} {e : TypeId} {z n : Nat} {v : Value} {xs : List Value} (h : w.ownsRow base e z v n xs) (hb : base' ≤ base) : w.ownsRow base' e z v n xs := by
  refine ⟨h.1, ?_⟩
  rcases h.2 with h2 | ⟨g, cap, cur, h3, h4, h5⟩
  · exact .inl h2
  · exact .inr ⟨g, cap, cur, h3, Nat.le_trans hb h4, h5⟩
theorem ownsRow_ge {base : Nat} {e : TypeId} {z n : Nat} {v : Value} {xs : List Value} (h : w.ownsRow base e z v n xs) : ∀ b ∈ Value.blk v, base ≤ b ∧ b < w.heap.size := by
  intro b hb
  rcases h.2 with ⟨h2, _⟩ | ⟨g, cap, cur, h3, h4, h5, _⟩
  · rw [h2] at hb; simp [Value.blk] at hb
  · rw [h3] at hb; simp [Value.blk] at hb; subst hb; exact ⟨h4, (Array.getElem?_eq_some_iff.1 h5).1⟩

/-- What stands in a source of an append. -/
def Src (w : World) (v : Value) (m : Nat) (news : List Value) : Prop :=
  ∃ ad c, v = .slice ad m c ∧ ((ad = none ∧ m = 0) ∨ ∃ A, ad = some A ∧ ∀ j u, news[j]? = some u → w.cell? (A.add j) = some u)

theorem run_append_any {P : Program} (t ty e : TypeId) (i : TypeInfo) (z : Value) (size : Nat) (ht : P.underlying t = some (.slice e)) (hi : P.info? e = some i) (hz : i.zero = some z) (hsize : i.size = size) (hzs : z.cells.size = size) (hsz : 0 < size)
    (v : Value) (n : Nat) (xs : List Value) (hown : w.ownsRow 0 e size v n xs) (x : Value) (m : Nat) (news : List Value) (hx : Src w x m news) (hl : news.length = m * size) (h1 : ∀ u ∈ news, u.oneCell' = true) (hb : i.bytes ≤ 40) (hroom : n + m ≤ room) :
    ∃ v' w', (Builtin.append_ #[t, t] ty #[v, x]).run P w = .ok v' w' ∧ w'.ownsRow 0 e size v' (n + m) (xs ++ news) ∧ w.grownBy w' v.ownBlock ∧ ∀ b ∈ Value.blk v', b ∈ Value.blk v ∨ w.heap.size ≤ b := by
  unfold room at hroom
  have h63 : n + m ≤ maxLen := by simp only [maxLen]; omega
  have hbytes : (n + m) * i.bytes ≤ 140737488355328 := by
    have : (n + m) * i.bytes ≤ 1099511627776 * 40 := Nat.mul_le_mul hroom hb
    omega
  obtain ⟨ad, c, rfl, hsrc⟩ := hx
  rcases hsrc with ⟨rfl, rfl⟩ | ⟨A, rfl, hnews⟩
  · have hn : news = [] := List.eq_nil_of_length_eq_zero (by simpa using hl)
    subst hn
    refine ⟨v, w, ?_, by simpa using hown, ⟨rfl, rfl, rfl, Nat.le_refl _, fun _ _ _ => rfl⟩, fun b hb => .inl hb⟩
    rcases hown.2 with ⟨rfl, rfl⟩ | ⟨g, cap, cur, rfl, _, _, hnc, _⟩
    · simp [Builtin.append_, run_underlying ht, Go.sizeOf, typeInfo, hi, Builtin.lenOf, Builtin.firstCells]
    · simp [Builtin.append_, run_underlying ht, Go.sizeOf, typeInfo, hi, Builtin.lenOf, Builtin.firstCells, hnc, storeCells]
  · rcases hown.2 with ⟨rfl, rfl⟩ | ⟨g, cap, cur, rfl, hbg, hg, hnc, hcm, hcs, htake⟩
    · have hx0 : xs = [] := List.eq_nil_of_length_eq_zero (by simpa using hown.1)
      subst hx0
      obtain ⟨v', w', hr, h2, h3, h4⟩ := run_append_own (P := P) w w.heap.size t ty e i z size i.bytes ht hi hz hsize rfl hzs hsz (.slice none 0 0) 0 [] (World.ownsRow_nil _ _ _ _) A m c news hl hnews h1 h63 hbytes (Nat.le_refl _)
      exact ⟨v', w', hr, ownsRow_base h2 (Nat.zero_le _), h3, fun b hb => .inr (ownsRow_ge h2 b hb).1⟩
    · obtain ⟨v', w', hr, h2, h3, h4⟩ := run_append_own (P := P) w 0 t ty e i z size i.bytes ht hi hz hsize rfl hzs hsz _ n xs hown A m c news hl hnews h1 h63 hbytes (Nat.zero_le _)
      refine ⟨v', w', hr, h2, h3, ?_⟩
      by_cases hroom' : n + m ≤ cap
      · have hr2 := run_append_room (P := P) w t ty e i ht hi g n cap cur hg A m c news (by rw [hsize]; exact hl) hnews h1 hroom' (by rw [hl, hsize, hcs, ← Nat.add_mul]; exact Nat.mul_le_mul_right _ hroom')
        rw [hr] at hr2
        simp only [Result.ok.injEq] at hr2
        intro b hb; left; rw [hr2.1] at hb; exact hb
      · have holds : ∀ j u, xs[j]? = some u → w.cell? ((⟨g, 0, none⟩ : Addr).add j) = some u := hown.cells (g := g) rfl
        have hr2 := run_append_grow (P := P) w t ty e i z ht hi hz ⟨g, 0, none⟩ n cap xs (by rw [hsize]; exact hown.1) holds A m c news (by rw [hsize]; exact hl) hnews (by omega) (by omega) (growslice_fits (by omega) hbytes)
        rw [hr] at hr2
        simp only [Result.ok.injEq] at hr2
        intro b hb; right; rw [hr2.1] at hb; simp [Value.blk] at hb; omega

theorem own_src {e : TypeId} {z m : Nat} {us : List Value} {s : Value} (h : w.ownsRow 0 e z s m us) : Src w s m us := by
  rcases h.2 with ⟨rfl, h2⟩ | ⟨g, cap, cur, rfl, _, _, _⟩
  · exact ⟨none, 0, by rw [h2], .inl ⟨rfl, h2⟩⟩
  · exact ⟨_, cap, rfl, .inr ⟨_, rfl, h.cells (g := g) rfl⟩⟩

theorem srcFlat_sound (F : Fits E fr H Kn σ a w) {τ : FT} {x : AV} {v : Value} {ys : List τ.T} (hx : RelV w (E.D σ) σ x v) (h : srcFlat H τ x = some ys) : Src w v ys.length (ys.flatMap τ.vals) := by
  unfold srcFlat at h
  cases x <;> simp only [reduceCtorEq, Option.some.injEq] at h
  case nils => subst h; exact ⟨none, 0, hx, .inl ⟨rfl, rfl⟩⟩
  case rs τ' xs =>
    split at h
    · rename_i he
      subst he
      simp only [Option.some.injEq] at h; subst h
      rcases hx with ⟨rfl, ad, c, hv⟩ | ⟨b, off, cap, hv, _, _, _, h5⟩
      · cases ad with
        | none => exact ⟨none, c, hv, .inl ⟨rfl, rfl⟩⟩
        | some A => exact ⟨_, c, hv, .inr ⟨A, rfl, by simp⟩⟩
      · exact ⟨_, cap, hv, .inr ⟨_, rfl, fun j u hu => by rw [add_lit]; exact h5 j u hu⟩⟩
    · cases h
  case sl r =>
    split at h
    · rename_i e τ' xs hH
      split at h
      · rename_i he
        subst he
        simp only [Option.some.injEq] at h; subst h
        obtain ⟨s, bs, h1, h2⟩ := F.heap r _ hH
        rw [hx s bs h1]
        exact own_src (h2 σ fun _ _ => rfl).1
      · cases h
    · cases h

/-- An append to what is owned; the old name goes, a new one comes. -/
theorem good_append_own (F : Fits E fr H Kn σ a w) (hnx : ¬ Kn nx) {r : Nat} {s v' : Value} {bs : List Nat} (hr : σ r = some (s, bs)) (hbs : bs = Value.blk s) (hrun : (execOp a.eval o).run E.P w = .ok (.value v') w') (hg : w.grownBy w' s.ownBlock)
    (hblk : ∀ b ∈ Value.blk v', b ∈ Value.blk s ∨ w.heap.size ≤ b) (hlt : ∀ b ∈ Value.blk v', b < w'.heap.size) (own : Own)
    (ho : ∀ σ'' : Sig, OwnRel w' (E.D (upd (upd σ r none) nx (some (v', Value.blk v')))) σ'' own v' (Value.blk v')) {vc : Prop} : Good E fr H Kn a w o nx ⟨.sl nx, [(nx, some own), (r, none)], 1, vc⟩ := by
  have hKr : Kn r := Classical.byContradiction (fun hn => by rw [F.gone r (F.known r hn)] at hr; cases hr)
  have hrn : r ≠ nx := fun e => hnx (by rw [← e]; exact hKr)
  have hups : applyUps [(nx, some own), (r, none)] H = upd (upd H r none) nx (some own) := by
    funext q; simp only [applyUps, look, upd]
    by_cases h1 : q = nx <;> by_cases h2 : q = r <;> simp [h1, h2, hrn]
  have sq : ∀ q, q ≠ nx → q ≠ r → upd (upd σ r none) nx (some (v', Value.blk v')) q = σ q := fun q h1 h2 => by rw [upd_ne _ _ h1, upd_ne _ _ h2]
  have sr : upd (upd σ r none) nx (some (v', Value.blk v')) r = none := by rw [upd_ne _ _ hrn, upd_same]
  have sn : upd (upd σ r none) nx (some (v', Value.blk v')) nx = some (v', Value.blk v') := upd_same _ _ _
  refine ⟨v', w', upd (upd σ r none) nx (some (v', Value.blk v')), .inl hrun, ?_, ?_⟩
  · simp only [kn1, hups]
    refine F.world (fun k => k ∈ bs) (fun k hk => ⟨r, s, bs, hr, hk⟩) ?_ hg.size hg.os hg.tape ⟨hg.output, run_drawn _ _ _ _ hrun⟩ ?_ (fun _ h => .inl h) ?_ ?_ ?_ ?_ ?_ ?_
    · intro k hk hkb
      refine hg.block k hk ?_
      rw [hbs] at hkb
      intro e
      apply hkb
      cases s <;> simp [Value.ownBlock] at e
      rename_i ad n c
      cases ad <;> simp [Value.ownBlock] at e
      simp [Value.blk, e]
    · intro q hq
      have h1 : q ≠ nx := fun e => hnx (by rw [← e]; exact hq)
      by_cases h2 : q = r
      · right; rw [h2]; exact sr
      · left; exact sq q h1 h2
    · rintro b ⟨q, s', bs', h1, h2⟩
      by_cases hq : q = nx
      · rw [hq, sn] at h1; cases h1
        rcases hblk b h2 with h | h
        · left; exact ⟨r, s, bs, hr, by rw [hbs]; exact h⟩
        · right; exact h
      · by_cases hq2 : q = r
        · rw [hq2, sr] at h1; cases h1
        · rw [sq q hq hq2] at h1; left; exact ⟨q, s', bs', h1, h2⟩
    · intro q o' ho'
      by_cases hq : q = nx
      · subst hq; rw [upd_same] at ho'; cases ho'; exact .inr ⟨v', _, sn, fun σ'' _ => ho σ''⟩
      · by_cases hq2 : q = r
        · subst hq2; rw [upd_ne _ _ hq, upd_same] at ho'; cases ho'
        · rw [upd_ne _ _ hq, upd_ne _ _ hq2] at ho'
          exact .inl ⟨F.kn ho', ho', sq q hq hq2, fun s' bs' h b hb hb' => F.disj q r s' bs' s bs h hr hq2 b hb hb'⟩
    · intro q hq
      by_cases h1 : q = nx
      · subst h1; rw [upd_same] at hq; cases hq
      · by_cases h2 : q = r
        · rw [h2]; exact sr
        · rw [upd_ne _ _ h1, upd_ne _ _ h2] at hq; rw [sq q h1 h2]; exact F.gone q hq
    · intro q hq
      by_cases h1 : q = nx
      · exact absurd (.inr h1) hq
      · by_cases h2 : q = r
        · rw [h2, upd_ne _ _ hrn, upd_same]
        · rw [upd_ne _ _ h1, upd_ne _ _ h2]; exact F.known q fun h => hq (.inl h)
    · intro q s' bs' h b hb
      by_cases h1 : q = nx
      · rw [h1, sn] at h; cases h
        refine ⟨hlt b hb, ?_⟩
        rcases hblk b hb with h | h
        · exact (F.lt r s bs hr b (by rw [hbs]; exact h)).2
        · exact .inl (Nat.le_trans F.size h)
      · by_cases h2 : q = r
        · rw [h2, sr] at h; cases h
        · rw [sq q h1 h2] at h; exact ⟨Nat.lt_of_lt_of_le (F.lt q s' bs' h b hb).1 hg.size, (F.lt q s' bs' h b hb).2⟩
    · have key : ∀ q' s2 bs2, σ q' = some (s2, bs2) → q' ≠ r → ∀ b ∈ Value.blk v', b ∉ bs2 := fun q' s2 bs2 h hq' b hb hb2 => by
        rcases hblk b hb with h3 | h3
        · exact F.disj r q' s bs s2 bs2 hr h (Ne.symm hq') b (by rw [hbs]; exact h3) hb2
        · have := (F.lt q' s2 bs2 h b hb2).1; omega
      intro q q' s1 bs1 s2 bs2 h1 h2 hne b hb1 hb2
      by_cases hq : q = nx
      · rw [hq, sn] at h1; cases h1
        have hq' : q' ≠ nx := fun e => hne (by rw [hq, e])
        by_cases h3 : q' = r
        · rw [h3, sr] at h2; cases h2
        · rw [sq q' hq' h3] at h2; exact key q' s2 bs2 h2 h3 b hb1 hb2
      · by_cases h4 : q = r
        · rw [h4, sr] at h1; cases h1
        · rw [sq q hq h4] at h1
          by_cases hq' : q' = nx
          · rw [hq', sn] at h2; cases h2; exact key q s1 bs1 h1 h4 b hb2 hb1
          · by_cases h3 : q' = r
            · rw [h3, sr] at h2; cases h2
            · rw [sq q' hq' h3] at h2; exact F.disj q q' s1 bs1 s2 bs2 h1 h2 hne b hb1 hb2
  · intro σ'' h'' s' bs' hs'
    have := h'' nx (.inr ⟨Nat.le_refl _, by simp⟩)
    rw [this, sn] at hs'; cases hs'; rfl

theorem exec_append {c : Call} {x y : Operand} {t : TypeId} (ho : o.op = .call c) (hc : c.callee = .builtin .append) (ha : c.args.toList = [x, y]) (hat : c.argTypes.toList = [t, t]) {v' : Value} (hrun : (Builtin.append_ #[t, t] o.type #[a.eval x, a.eval y]).run E.P w = .ok v' w') :
    (execOp a.eval o).run E.P w = .ok (.value v') w' := by
  have h1 : c.args = #[x, y] := by rw [← Array.toArray_toList (xs := c.args), ha]
  have h2 : c.argTypes = #[t, t] := by rw [← Array.toArray_toList (xs := c.argTypes), hat]
  simp [execOp, ho, resolve, hc, h1, h2, invoke, builtin, hrun]

theorem bytes_le (τ : FT) : τ.bytes ≤ 40 := by cases τ <;> decide
theorem zero_size (τ : FT) : τ.zeroV.cells.size = τ.size := by cases τ <;> rfl

theorem good_app (F : Fits E fr H Kn σ a w) (hnx : ¬ Kn nx) {t e : TypeId} {d : TD} {τ : FT} (hT : TyOK E.P t d) (hk : d.kd = .sl e τ) {c : Call} {x y : Operand} {r : Nat} {xs ys : List τ.T} (ho : o.op = .call c) (hc : c.callee = .builtin .append) (ha : c.args.toList = [x, y]) (hat : c.argTypes.toList = [t, t])
    (hx : Knows E Kn σ w (.sl r) (a.eval x)) (hH : H r = some (.sl e τ xs)) (hy : Src w (a.eval y) ys.length (ys.flatMap τ.vals)) (hroom : xs.length + ys.length ≤ room) {vc : Prop} :
    Good E fr H Kn a w o nx ⟨.sl nx, [(nx, some (.sl e τ (xs ++ ys))), (r, none)], 1, vc⟩ := by
  obtain ⟨hu, ie, hi, hz, hsz, hby⟩ := hT.slice hk
  obtain ⟨s, bs, h1, h2⟩ := F.heap r _ hH
  obtain ⟨hown, hbs⟩ := h2 σ fun _ _ => rfl
  obtain ⟨v', w1, hrun, hown', hg, hblk⟩ := run_append_any (P := E.P) t o.type e ie τ.zeroV τ.size hu hi hz hsz (zero_size τ) (size_pos τ) s xs.length _ hown (a.eval y) ys.length _ hy (flat_length τ ys) (flat_one τ ys) (by rw [hby]; exact bytes_le τ) hroom
  have hv := hx.self s bs h1
  refine good_append_own F hnx h1 hbs (exec_append ho hc ha hat (by rw [hv]; exact hrun)) hg hblk (fun b hb => (ownsRow_ge hown' b hb).2) (.sl e τ (xs ++ ys)) (fun σ'' => ⟨?_, rfl⟩)
  rw [List.length_append, List.flatMap_append]; exact hown'

theorem good_appnil (F : Fits E fr H Kn σ a w) (hnx : ¬ Kn nx) {t e : TypeId} {d : TD} {τ : FT} (hT : TyOK E.P t d) (hk : d.kd = .sl e τ) {c : Call} {x y : Operand} {ys : List τ.T} (ho : o.op = .call c) (hc : c.callee = .builtin .append) (ha : c.args.toList = [x, y]) (hat : c.argTypes.toList = [t, t])
    (hx : a.eval x = .slice none 0 0) (hy : Src w (a.eval y) ys.length (ys.flatMap τ.vals)) (hroom : ys.length ≤ room) {vc : Prop} : Good E fr H Kn a w o nx ⟨.sl nx, [(nx, some (.sl e τ ys))], 1, vc⟩ := by
  obtain ⟨hu, ie, hi, hz, hsz, hby⟩ := hT.slice hk
  obtain ⟨v', w1, hrun, hown', hg, hblk⟩ := run_append_any (P := E.P) t o.type e ie τ.zeroV τ.size hu hi hz hsz (zero_size τ) (size_pos τ) (.slice none 0 0) 0 [] (World.ownsRow_nil _ _ _ _) (a.eval y) ys.length _ hy (flat_length τ ys) (flat_one τ ys) (by rw [hby]; exact bytes_le τ) (by omega)
  refine good_fresh F hnx (v := v') (.sl e τ ys) v' (Value.blk v') (exec_append ho hc ha hat (by rw [hx]; exact hrun)) (fun k hk' => hg.block k hk' (by simp [Value.ownBlock])) hg.size hg.os hg.tape hg.output ?_ (fun σ'' _ => ⟨?_, rfl⟩) (fun _ _ h => h) ?_
  · intro b hb
    refine ⟨?_, (ownsRow_ge hown' b hb).2⟩
    rcases hblk b hb with h | h
    · simp [Value.blk] at h
    · exact h
  · simpa using hown'
  · intro σ'' h'' s' bs' hs'
    rw [h''] at hs'; cases hs'; rfl

theorem good_appr (F : Fits E fr H Kn σ a w) (hnx : ¬ Kn nx) {t e : TypeId} {d : TD} (hT : TyOK E.P t d) (hk : d.kd = .slr e) {c : Call} {x y : Operand} {r : Nat} {xs ys : List (List Int)} (ho : o.op = .call c) (hc : c.callee = .builtin .append) (ha : c.args.toList = [x, y]) (hat : c.argTypes.toList = [t, t])
    (hx : Knows E Kn σ w (.sl r) (a.eval x)) (hH : H r = some (.rows e xs)) (us : List Value) (hul : us.length = ys.length) (hy : Src w (a.eval y) ys.length us) (h1 : ∀ u ∈ us, u.oneCell' = true)
    (hrow : ∀ (i : Nat) (u : Value) (zs : List Int), us[i]? = some u → ys[i]? = some zs → ROflat w (E.D σ) .i64 zs u) (hroom : xs.length + ys.length ≤ room) {vc : Prop} :
    Good E fr H Kn a w o nx ⟨.sl nx, [(nx, some (.rows e (xs ++ ys))), (r, none)], 1, vc⟩ := by
  obtain ⟨hu, ie, hi, hz, hsz, hby⟩ := hT.slicer hk
  obtain ⟨s, bs, hs1, h2⟩ := F.heap r _ hH
  obtain ⟨us0, hown, hbs, hone0, hrow0⟩ := h2 σ fun _ _ => rfl
  obtain ⟨v', w1, hrun, hown', hg, hblk⟩ := run_append_any (P := E.P) t o.type e ie (.slice none 0 0) 1 hu hi hz hsz rfl (by decide) s xs.length _ hown (a.eval y) ys.length us hy (by rw [hul, Nat.mul_one]) h1 (by rw [hby]; decide) hroom
  have hv := hx.self s bs hs1
  have hul0 : us0.length = xs.length := by have := hown.1; simpa using this
  have hlt1 := fun b hb => (ownsRow_ge hown' b hb).2
  -- what was only read stays so
  have hS : ∀ (σ'' : Sig), Stab w (E.D σ) σ'' w1 (E.D (upd (upd σ r none) nx (some (v', Value.blk v')))) σ'' := fun σ'' =>
    ⟨fun ad v hc' hD => by
      have hlt := World.block_lt_of_cell? w ad hc'
      rw [World.cell?_of_block (hg.block _ hlt ?_)]; exact hc'
      intro e'
      apply hD
      left
      refine ⟨r, s, bs, hs1, ?_⟩
      rw [hbs]
      cases s <;> simp [Value.ownBlock] at e'
      rename_i ad' n' c'
      cases ad' <;> simp [Value.ownBlock] at e'
      simp [Value.blk, e'], fun b hD hb hD' => by
      rcases hD' with ⟨q, s', bs', h3, h4⟩ | hA
      · by_cases hq : q = nx
        · rw [hq, upd_same] at h3; cases h3
          rcases hblk b h4 with h5 | h5
          · exact hD (.inl ⟨r, s, bs, hs1, by rw [hbs]; exact h5⟩)
          · omega
        · rw [upd_ne _ _ hq] at h3
          by_cases hq2 : q = r
          · rw [hq2, upd_same] at h3; cases h3
          · rw [upd_ne _ _ hq2] at h3; exact hD (.inl ⟨q, s', bs', h3, h4⟩)
      · exact hD (.inr hA), fun _ => .inl rfl⟩
  refine good_append_own F hnx hs1 hbs (exec_append ho hc ha hat (by rw [hv]; exact hrun)) hg hblk hlt1 (.rows e (xs ++ ys)) (fun σ'' => ⟨us0 ++ us, ?_, rfl, ?_, ?_⟩)
  · rw [List.length_append]; exact hown'
  · intro u hu'
    rcases List.mem_append.1 hu' with hu' | hu'
    · exact hone0 u hu'
    · exact h1 u hu'
  · intro i u zs hu' hz'
    by_cases hi' : i < xs.length
    · rw [List.getElem?_append_left (by omega)] at hu' hz'
      exact (hrow0 i u zs hu' hz').stab (hS σ)
    · rw [List.getElem?_append_right (by omega)] at hu' hz'
      rw [hul0] at hu'
      exact (hrow _ u zs hu' hz').stab (hS σ)

theorem good_field (F : Fits E fr H Kn σ a w) {t : TypeId} {d : TD} (hT : TyOK E.P t d) (hs : d.kd = .str) {x : Operand} {k : Nat} {fs : List AV} {y : AV} (ho : o.op = .field t x k) (hx : Knows E Kn σ w (.agg fs) (a.eval x)) (hl : fs.length = d.size) (hy : fs[k]? = some y) :
    Good E fr H Kn a w o nx ⟨y, [], 0, True⟩ := by
  have h3 := hT.2.2; simp only [hs] at h3
  obtain ⟨fields, hu, hn, hf⟩ := str_fields h3
  obtain ⟨cs, hv, hr⟩ := hx.self
  obtain ⟨v, hv1, _⟩ := RelL.get k y hr hy
  have hkl : k < fields.size := by rw [hn, ← hl]; exact (List.getElem?_eq_some_iff.1 hy).1
  obtain ⟨ho1, i, u, hi, hsz, hu2, ha⟩ := hf k _ (Array.getElem?_eq_getElem hkl)
  refine good_pure F (v := v) ?_ ?_
  · simp only [execOp, ho, hv]
    refine run_ok_value ?_
    simp [Instr.field, run_underlying hu, Array.getElem?_eq_getElem hkl, asAgg, part, run_isAgg hu2, ha, ho1, hv1]
  · intro σ'' h''
    obtain ⟨cs', hv', hr'⟩ := hx σ'' h''
    rw [hv] at hv'
    have : cs = cs' := by simpa using hv'
    subst this
    obtain ⟨v', hv2, hr2⟩ := RelL.get k y hr' hy
    rw [hv1] at hv2; cases hv2; exact hr2

theorem run_fieldAt {P : Program} {t : TypeId} {d : TD} (hT : TyOK P t d) (hs : d.kd = .str) (w : World) (b off k : Nat) (hk : k < d.size) : (Instr.fieldAt t (.pointer (some ⟨b, off, none⟩)) k).run P w = .ok (.pointer (some ⟨b, off + k, none⟩)) w := by
  have h3 := hT.2.2; simp only [hs] at h3
  obtain ⟨fields, hu, hn, hf⟩ := str_fields h3
  have hkl : k < fields.size := by omega
  obtain ⟨ho1, i, u, hi, hsz, _⟩ := hf k _ (Array.getElem?_eq_getElem hkl)
  simp [Instr.fieldAt, run_underlying hu, Array.getElem?_eq_getElem hkl, Instr.sureAddr, fieldPlace, Go.sizeOf, typeInfo, hi, hsz, ho1, add_lit]

theorem good_fa_rp (F : Fits E fr H Kn σ a w) {t : TypeId} {d : TD} (hT : TyOK E.P t d) (hs : d.kd = .str) {x : Operand} {k : Nat} {cs : List AV} {y : AV} (ho : o.op = .fieldAddr t x k) (hx : Knows E Kn σ w (.rp cs) (a.eval x)) (hl : cs.length = d.size) (hy : cs[k]? = some y) :
    Good E fr H Kn a w o nx ⟨.rp [y], [], 0, True⟩ := by
  obtain ⟨_, b, off, us, hv, hD, hc, hr⟩ := hx.self
  have hkl : k < d.size := by rw [← hl]; exact (List.getElem?_eq_some_iff.1 hy).1
  refine good_pure F (v := .pointer (some ⟨b, off + k, none⟩)) ?_ ?_
  · simp only [execOp, ho, hv]
    exact run_ok_value (run_fieldAt hT hs w b off k hkl)
  · intro σ'' h''
    obtain ⟨_, b', off', us', hv', hD', hc', hr'⟩ := hx σ'' h''
    rw [hv] at hv'; simp only [Value.pointer.injEq, Option.some.injEq, Addr.mk.injEq, and_true] at hv'
    obtain ⟨rfl, rfl⟩ := hv'
    obtain ⟨v, hv1, hr1⟩ := RelL.get k y hr' hy
    refine ⟨by simp, b, off + k, [v], rfl, hD, fun j u hu => ?_, ⟨v, [], rfl, hr1, rfl⟩⟩
    cases j with
    | zero => simp only [List.getElem?_cons_zero, Option.some.injEq] at hu; subst hu; exact hc' k v hv1
    | succ j => simp at hu

theorem good_fa_op (F : Fits E fr H Kn σ a w) {t : TypeId} {d : TD} (hT : TyOK E.P t d) (hs : d.kd = .str) {x : Operand} {k r : Nat} (ho : o.op = .fieldAddr t x k) (hx : Knows E Kn σ w (.op r 0) (a.eval x)) (hk : k < d.size) (hH : ∃ o, H r = some o) {vc : Prop} :
    Good E fr H Kn a w o nx ⟨.op r k, [], 0, vc⟩ := by
  obtain ⟨o', hH⟩ := hH
  obtain ⟨s, bs, h1, _⟩ := F.heap r o' hH
  obtain ⟨b, h2, hv⟩ := hx.self s bs h1
  refine good_pure F (v := .pointer (some ⟨b, 0 + k, none⟩)) ?_ ?_
  · simp only [execOp, ho, hv]
    exact run_ok_value (run_fieldAt hT hs w b 0 k hk)
  · intro σ'' h'' s' bs' hs'
    obtain ⟨b', h3, h4⟩ := hx σ'' h'' s' bs' hs'
    rw [hv] at h4; simp only [Value.pointer.injEq, Option.some.injEq, Addr.mk.injEq, and_true] at h4
    exact ⟨b', h3, by simp [h4]⟩

theorem good_fa_oe (F : Fits E fr H Kn σ a w) {t : TypeId} {d : TD} (hT : TyOK E.P t d) (hs : d.kd = .str) {x : Operand} {k r z : Nat} {i : Int} (ho : o.op = .fieldAddr t x k) (hx : Knows E Kn σ w (.oe r z i 0) (a.eval x)) (hk : k < d.size) (hH : ∃ o, H r = some o) {vc : Prop} :
    Good E fr H Kn a w o nx ⟨.oe r z i k, [], 0, vc⟩ := by
  obtain ⟨o', hH⟩ := hH
  obtain ⟨s, bs, h1, _⟩ := F.heap r o' hH
  obtain ⟨b, n, cap, h2, hv, _⟩ := hx.self s bs h1
  refine good_pure F (v := .pointer (some ⟨b, i.toNat * z + 0 + k, none⟩)) ?_ ?_
  · simp only [execOp, ho, hv]
    exact run_ok_value (run_fieldAt hT hs w b _ k hk)
  · intro σ'' h'' s' bs' hs'
    obtain ⟨b', n', cap', h3, h4, h5, h6⟩ := hx σ'' h'' s' bs' hs'
    rw [hv] at h4; simp only [Value.pointer.injEq, Option.some.injEq, Addr.mk.injEq, and_true] at h4
    exact ⟨b', n', cap', h3, by simp [h4], h5, h6⟩

theorem good_func (F : Fits E fr H Kn σ a w) {f : FuncId} {first caps : Array Operand} {ys : List AV} (ho : o.op = .makeFunc (.func f) first caps) (hf : first.toList = []) (hl : KnowsL E Kn σ w ys (caps.toList.map a.eval)) : Good E fr H Kn a w o nx ⟨.clo f ys, [], 0, True⟩ := by
  have hf' : first = #[] := by rw [← Array.toArray_toList (xs := first), hf]
  refine good_pure F (v := .func (.func f) #[] (caps.map a.eval)) ?_ (fun σ'' h'' => ⟨_, ?_, hl σ'' h''⟩)
  · simp [execOp, ho, Instr.makeFunc, hf']
  · rw [← Array.toList_map, Array.toArray_toList]

theorem maxAV_sound {D : Nat → Prop} {σ' : Sig} : ∀ (n : Nat) (ys : List AV) (vs : List Value) (m : Int), ys.length ≤ n → RelL w D σ' ys vs → maxAV ys = some m → ∃ x rest, vs = x :: rest ∧ (rest.foldlM Builtin.max2 x).run E.P w = .ok (.int .i64 m) w
  | 0, ys, _, _, hn, _, h => by
    have : ys = [] := List.eq_nil_of_length_eq_zero (by omega)
    subst this; simp [maxAV] at h
  | n + 1, ys, vs, m, hn, hr, h => by
    cases ys with
    | nil => simp [maxAV] at h
    | cons y ys =>
      obtain ⟨v, vs', rfl, hy, hl⟩ := hr
      cases y <;> (try (simp [maxAV] at h; done))
      rename_i p
      rw [show v = _ from hy]
      cases ys with
      | nil =>
        simp only [maxAV, Option.some.injEq] at h; subst h
        have hl : vs' = [] := hl
        subst hl
        exact ⟨_, [], rfl, by simp⟩
      | cons y2 ys =>
        cases y2 <;> (try (simp [maxAV] at h; done))
        rename_i q
        obtain ⟨v2, vs2, rfl, hy2, hl2⟩ := hl
        rw [show v2 = _ from hy2]
        simp only [maxAV] at h
        obtain ⟨x, rest, h1, h2⟩ := maxAV_sound n (.int (max p q) :: ys) (.int .i64 (max p q) :: vs2) m (by simp at hn ⊢; omega) ⟨_, _, rfl, rfl, hl2⟩ h
        simp only [List.cons.injEq] at h1
        obtain ⟨rfl, rfl⟩ := h1
        refine ⟨_, _, rfl, ?_⟩
        have e : (if q > p then q else p) = max p q := by rw [Int.max_def]; split <;> split <;> omega
        simp only [List.foldlM_cons, Builtin.max2, Sem.run_bind, Sem.run_pure, Result.andThen_ok, e]
        exact h2

theorem minAV_sound {D : Nat → Prop} {σ' : Sig} : ∀ (n : Nat) (ys : List AV) (vs : List Value) (m : Int), ys.length ≤ n → RelL w D σ' ys vs → minAV ys = some m → ∃ x rest, vs = x :: rest ∧ (rest.foldlM Builtin.min2 x).run E.P w = .ok (.int .i64 m) w
  | 0, ys, _, _, hn, _, h => by
    have : ys = [] := List.eq_nil_of_length_eq_zero (by omega)
    subst this; simp [minAV] at h
  | n + 1, ys, vs, m, hn, hr, h => by
    cases ys with
    | nil => simp [minAV] at h
    | cons y ys =>
      obtain ⟨v, vs', rfl, hy, hl⟩ := hr
      cases y <;> (try (simp [minAV] at h; done))
      rename_i p
      rw [show v = _ from hy]
      cases ys with
      | nil =>
        simp only [minAV, Option.some.injEq] at h; subst h
        have hl : vs' = [] := hl
        subst hl
        exact ⟨_, [], rfl, by simp⟩
      | cons y2 ys =>
        cases y2 <;> (try (simp [minAV] at h; done))
        rename_i q
        obtain ⟨v2, vs2, rfl, hy2, hl2⟩ := hl
        rw [show v2 = _ from hy2]
        simp only [minAV] at h
        obtain ⟨x, rest, h1, h2⟩ := minAV_sound n (.int (min p q) :: ys) (.int .i64 (min p q) :: vs2) m (by simp at hn ⊢; omega) ⟨_, _, rfl, rfl, hl2⟩ h
        simp only [List.cons.injEq] at h1
        obtain ⟨rfl, rfl⟩ := h1
        refine ⟨_, _, rfl, ?_⟩
        have e : (if q < p then q else p) = min p q := by rw [Int.min_def]; split <;> split <;> omega
        simp only [List.foldlM_cons, Builtin.min2, Sem.run_bind, Sem.run_pure, Result.andThen_ok, e]
        exact h2

theorem good_max (F : Fits E fr H Kn σ a w) {c : Call} {ys : List AV} {m : Int} (ho : o.op = .call c) (hc : c.callee = .builtin .max) (hl : KnowsL E Kn σ w ys (c.args.toList.map a.eval)) (hm : maxAV ys = some m) : Good E fr H Kn a w o nx ⟨.int m, [], 0, True⟩ := by
  obtain ⟨x, rest, h1, h2⟩ := maxAV_sound (E := E) ys.length ys _ m (Nat.le_refl _) (hl σ fun _ _ => rfl) hm
  refine good_pure F (v := .int .i64 m) ?_ (fun _ _ => rfl)
  simp [execOp, ho, resolve, hc, invoke, builtin, Builtin.max_, h1, h2]
theorem good_min (F : Fits E fr H Kn σ a w) {c : Call} {ys : List AV} {m : Int} (ho : o.op = .call c) (hc : c.callee = .builtin .min) (hl : KnowsL E Kn σ w ys (c.args.toList.map a.eval)) (hm : minAV ys = some m) : Good E fr H Kn a w o nx ⟨.int m, [], 0, True⟩ := by
  obtain ⟨x, rest, h1, h2⟩ := minAV_sound (E := E) ys.length ys _ m (Nat.le_refl _) (hl σ fun _ _ => rfl) hm
  refine good_pure F (v := .int .i64 m) ?_ (fun _ _ => rfl)
  simp [execOp, ho, resolve, hc, invoke, builtin, Builtin.min_, h1, h2]

end
end Go.Proofs.Ytpiaeckkjdcifaa
