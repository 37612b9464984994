/- The core of the method, part K: every operation that the abstract step takes is sound. No condition. -/
import Derived.Test.YtpiaeckkjdcifaaCoreJ
namespace Go.Proofs.Ytpiaeckkjdcifaa
set_option linter.unusedVariables false
set_option linter.unusedSimpArgs false
open Go

section
variable {E : Env} {fr : Nat → Option AV} {H : Nat → Option Own} {Kn : Nat → Prop} {σ : Sig} {a : Act} {w w' : World} {o : Oper} {nx : Nat}
variable {T : TypeId → Option TD} {Γ : FuncId → Option Ctr} {mb : List Nat} {ev : Operand → Option AV}

theorem evL_sound (hev : ∀ x y, ev x = some y → Knows E Kn σ w y (a.eval x)) : ∀ (xs : List Operand) (ys : List AV), evL ev xs = some ys → KnowsL E Kn σ w ys (xs.map a.eval)
  | [], ys, h => by
    simp only [evL, Option.some.injEq] at h; subst h
    intro _ _; rfl
  | x :: xs, ys, h => by
    simp only [evL] at h
    split at h
    · rename_i y ys' hy hys
      simp only [Option.some.injEq] at h; subst h
      intro σ'' h''
      exact ⟨_, _, rfl, hev x y hy σ'' h'', evL_sound hev xs ys' hys σ'' h''⟩
    · cases h
theorem evL_congr {ev' : Operand → Option AV} : ∀ (xs : List Operand), (∀ x ∈ xs, ev x = ev' x) → evL ev xs = evL ev' xs
  | [], _ => rfl
  | x :: xs, h => by
    simp only [evL, h x (by simp), evL_congr xs (fun y hy => h y (by simp [hy]))]

theorem setf_sound {D : Nat → Prop} {σ' : Sig} (τ : FT) (x : τ.T) (k : Nat) (y : AV) (u : τ.T) (v : Value) (h : FT.setf τ x k y = some u) (hy : RelV w D σ' y v) : k < τ.size ∧ v.oneCell' = true ∧ τ.vals u = (τ.vals x).set k v := by
  unfold FT.setf at h
  split at h <;> simp only [Option.some.injEq, reduceCtorEq] at h <;> subst h <;> (rw [show v = _ from hy]; exact ⟨by decide, rfl, rfl⟩)

theorem good_load (F : Fits E fr H Kn σ a w) {t : TypeId} {d : TD} (hT : TyOK E.P t d) {x : Operand} {y : AV} {q : AV × Prop} (ho : o.op = .load t x) (hx : Knows E Kn σ w y (a.eval x)) (h : loadAV H d y = some q) : Good E fr H Kn a w o nx ⟨q.1, [], 0, q.2⟩ := by
  unfold loadAV at h
  split at h
  · split at h
    · rename_i hs
      split at h
      · rename_i hl
        simp only [Option.some.injEq] at h; subst h
        exact good_load_rp F hT ho hx hs hl
      · cases h
    · rename_i hs
      split at h
      · simp only [Option.some.injEq] at h; subst h
        exact good_load_rp1 F hT ho hx (by simpa using hs)
      · cases h
  · split at h
    · rename_i cs hH
      split at h
      · rename_i hs
        split at h
        · rename_i hl
          simp only [Option.some.injEq] at h; subst h
          obtain ⟨h1, h2⟩ := hl
          subst h1
          exact good_load_op F hT ho hx hH hs h2
        · cases h
      · rename_i hs
        rw [Option.map_eq_some_iff] at h
        obtain ⟨c, hc, rfl⟩ := h
        exact good_load_op1 F hT ho hx hH (by simpa using hs) hc
    · cases h
  · split at h
    · rename_i e τ xs hH
      split at h
      · rename_i hs
        split at h
        · rename_i hl
          simp only [Option.some.injEq] at h; subst h
          obtain ⟨h1, h2, h3⟩ := hl
          subst h1; subst h2
          exact good_load_oe F hT ho hx hH hs h3
        · cases h
      · rename_i hs
        split at h
        · rename_i hz
          subst hz
          rw [Option.map_eq_some_iff] at h
          obtain ⟨c, hc, rfl⟩ := h
          exact good_load_oe1 F hT ho hx hH (by simpa using hs) hc
        · cases h
    · rename_i e xss hH
      split at h
      · cases h
      · rename_i hs
        split at h
        · rename_i hz
          obtain ⟨h1, h2⟩ := hz
          subst h1; subst h2
          simp only [Option.some.injEq] at h; subst h
          exact good_load_oer F hT ho hx hH (by simpa using hs)
        · cases h
    · cases h
  · cases h

theorem rowQ_some {y : AV} {q : Nat} (h : rowQ y = some q) : y = .sl q := by
  cases y <;> simp only [rowQ, Option.some.injEq, reduceCtorEq] at h; rw [h]
theorem ownInts_some {x : Option Own} {ys : List Int} (h : ownInts x = some ys) : ∃ e, x = some (.sl e .i64 ys) := by
  unfold ownInts at h
  split at h
  · rename_i e zs; cases h; exact ⟨e, rfl⟩
  · cases h
/-- An owned slice is laid into a row: from now on it is only read. -/
theorem good_store_oers (F : Fits E fr H Kn σ a w) {t : TypeId} {d : TD} (hT : TyOK E.P t d) {x y : Operand} (ho : o.op = .store t x y) {r q : Nat} {i : Int} {e e' : TypeId} {xss : List (List Int)} {ys : List Int} (hx : Knows E Kn σ w (.oe r 1 i 0) (a.eval x)) (hH : H r = some (.rows e xss))
    (hne : q ≠ r) (hH' : H q = some (.sl e' .i64 ys)) (hy : Knows E Kn σ w (.sl q) (a.eval y)) (hd : d.size = 1) {vc : Prop} : Good E fr H Kn a w o nx ⟨.junk, [(r, some (.rows e (xss.set i.toNat ys))), (q, none)], 0, vc⟩ := by
  obtain ⟨s', bs', h1, h2⟩ := F.heap q _ hH'
  have hv : a.eval y = s' := hy.self s' bs' h1
  have hD := F.dropD q s' bs' h1
  have hy' : Knows E Kn (upd σ q none) w (.rs .i64 ys) (a.eval y) := by
    intro σ'' _
    rw [hv]
    exact snap_flat (h2 σ (fun _ _ => rfl)) hD
  have hx' : Knows E Kn (upd σ q none) w (.oe r 1 i 0) (a.eval x) := by
    intro σ'' h''
    have := hx (fun p => if p = q then σ q else σ'' p) (fun p hp => by
      by_cases hpq : p = q
      · simp [hpq]
      · simp only [hpq, if_false]; rw [h'' p hp, upd_ne _ _ hpq])
    intro s bs hs
    exact this s bs (by simp only [show ¬ r = q from fun e => hne e.symm, if_false]; exact hs)
  have hH2 : upd H q none r = some (.rows e xss) := by rw [upd_ne _ _ (fun e => hne e.symm)]; exact hH
  obtain ⟨v, w', σ', h3, h4, h5⟩ := good_store_oer (nx := nx) (vc := vc) (F.drop q) hT ho hx' hH2 hy' hd
  refine ⟨v, w', σ', h3, ?_, h5⟩
  have e1 : applyUps [(r, some (.rows e (xss.set i.toNat ys))), (q, none)] H = applyUps [(r, some (.rows e (xss.set i.toNat ys)))] (upd H q none) := by
    funext p
    simp only [applyUps, look, upd]
    by_cases hp : p = r
    · simp only [hp, if_true]
    · by_cases hpq : p = q
      · simp only [hpq, hne, if_false, if_true]
      · simp only [hp, hpq, if_false]
  rw [e1]; exact h4

theorem good_storeAV (F : Fits E fr H Kn σ a w) {t : TypeId} {d : TD} (hT : TyOK E.P t d) {x y : Operand} {p z : AV} {u : List (Nat × Option Own)} (ho : o.op = .store t x y) (hx : Knows E Kn σ w p (a.eval x)) (hy : Knows E Kn σ w z (a.eval y)) (h : storeAV H d p z = some u) : Good E fr H Kn a w o nx ⟨.junk, u, 0, True⟩ := by
  unfold storeAV at h
  split at h
  · split at h
    · rename_i cs hH
      split at h
      · split at h
        · split at h
          · rename_i fs hc
            simp only [Option.some.injEq] at h; subst h
            obtain ⟨h1, h2, h3, h4, h5⟩ := hc
            subst h1
            exact good_store_ops F hT ho hx hy hH h2 h3 h5
          · cases h
        · cases h
      · split at h
        · rename_i hc
          simp only [Option.some.injEq] at h; subst h
          exact good_store_op F hT ho hx hy hH hc.1 hc.2.1 hc.2.2.2
        · cases h
    · cases h
  · split at h
    · rename_i e τ xs hH
      split at h
      · split at h
        · rename_i hc
          obtain ⟨h1, h2, h3⟩ := hc
          subst h1; subst h2
          rw [Option.map_eq_some_iff] at h
          obtain ⟨v, hv, rfl⟩ := h
          have hcells := of_sound τ z v _ hv hy.self
          refine good_store_oe F hT ho hx hH (τ.vals v) hcells (by rw [flat_len, h3]) (fun q hq => flat_one τ [v] q (by simpa using hq)) (by rw [flat_len]; omega) (fun hi => ?_)
          rw [Nat.add_zero, flat_set τ xs _ v hi]
        · cases h
      · split at h
        · rename_i hc
          obtain ⟨h1, h2, h3⟩ := hc
          subst h1
          rw [Option.map_eq_some_iff] at h
          obtain ⟨v, hv, rfl⟩ := h
          obtain ⟨h4, h5, h6⟩ := setf_sound τ _ _ z v _ hv hy.self
          refine good_store_oe F hT ho hx hH [a.eval y] (by rw [one_cells h5]) (by simp [h2]) (by simpa using h5) (by simp; omega) (fun hi => ?_)
          rw [flat_set τ xs _ v hi, h6]
          refine (over_over _ _ _ _ _ (by rw [flat_len]; exact h3) ?_ ?_).symm
          · rw [flat_len, flat_length]
            have := Nat.mul_le_mul_right τ.size (Nat.succ_le_of_lt hi); rw [Nat.succ_mul] at this; exact this
          · intro j hj
            rw [flat_len] at hj
            rw [flat_get τ xs _ j _ hj (List.getElem?_eq_getElem hi)]
            simp [List.getD, List.getElem?_eq_getElem hi]
        · cases h
    · rename_i e xss hH
      split at h
      · cases h
      · split at h
        · rename_i q hq
          split at h
          · rename_i hc
            obtain ⟨h0, h1, h2, h3⟩ := hc
            subst h1; subst h2
            split at h
            · rename_i ys hys
              obtain ⟨e', hH'⟩ := ownInts_some hys
              simp only [Option.some.injEq] at h; subst h
              exact good_store_oers F hT ho hx hH h0 hH' (rowQ_some hq ▸ hy) h3
            · cases h
          · cases h
        · split at h
          · split at h
            · rename_i ys hc
              obtain ⟨h1, h2, h3⟩ := hc
              subst h1; subst h2
              simp only [Option.some.injEq] at h; subst h
              exact good_store_oer F hT ho hx hH hy h3
            · cases h
          · cases h
    · cases h
  · cases h

theorem good_idx (F : Fits E fr H Kn σ a w) {t : TypeId} {d : TD} (hT : TyOK E.P t d) {x y : Operand} {p z : AV} {q : AV × Prop} (ho : o.op = .indexAddr t x y) (hx : Knows E Kn σ w p (a.eval x)) (hy : Knows E Kn σ w z (a.eval y)) (h : idxAV H d p z = some q) (hvc : q.2) : Good E fr H Kn a w o nx ⟨q.1, [], 0, q.2⟩ := by
  unfold idxAV at h
  split at h
  · rename_i i
    have hyv : a.eval y = .int .i64 i := hy.self
    split at h
    · rename_i e τ' hk
      split at h
      · split at h
        · rename_i hc
          subst hc
          simp only [Option.some.injEq] at h; subst h
          exact good_idx_rs F hT hk ho hx hyv hvc.1 hvc.2
        · cases h
      · split at h
        · rename_i e2 τ2 xs hH
          split at h
          · rename_i hc
            subst hc
            simp only [Option.some.injEq] at h; subst h
            obtain ⟨hu, ie, hi, _, hsz, _⟩ := hT.slice hk
            obtain ⟨s, bs, h1, h2⟩ := F.heap _ _ hH
            exact good_idx_own F hu hi ho hx hyv h1 (h2 σ fun _ _ => rfl).1 hsz hvc.1 hvc.2
          · cases h
        · cases h
      · cases h
    · rename_i e hk
      split at h
      · simp only [Option.some.injEq] at h; subst h
        exact good_idx_rows F hT hk ho hx hyv hvc.1 hvc.2
      · split at h
        · rename_i e2 xss hH
          simp only [Option.some.injEq] at h; subst h
          obtain ⟨hu, ie, hi, _, hsz, _⟩ := hT.slicer hk
          obtain ⟨s, bs, h1, h2⟩ := F.heap _ _ hH
          obtain ⟨us, hown, _⟩ := h2 σ fun _ _ => rfl
          exact good_idx_own F hu hi ho hx hyv h1 hown hsz hvc.1 hvc.2
        · cases h
      · cases h
    · cases h
  · cases h

theorem good_sliceAV (F : Fits E fr H Kn σ a w) {t e : TypeId} {ie : TypeInfo} {x : Operand} {lo hi : Option Operand} {p : AV} {q : AV × Prop} (ht : E.P.underlying t = some (.slice e)) (he : E.P.info? e = some ie) (ho : o.op = .slice t x lo hi none) (hx : Knows E Kn σ w p (a.eval x))
    (hsz : (∀ τ xs, p = .rs τ xs → ie.size = τ.size) ∧ (∀ xss, p = .rows xss → ie.size = 1)) (hev : ∀ x y, ev x = some y → Knows E Kn σ w y (a.eval x)) (hlo : ∀ z, lo = some z → (ev z).isSome = true) (hhi : ∀ z, hi = some z → (ev z).isSome = true)
    (h : sliceAV p (lo.bind ev) (hi.bind ev) = some q) (hvc : q.2) : Good E fr H Kn a w o nx ⟨q.1, [], 0, q.2⟩ := by
  have getI : ∀ (z : Option Operand) (n : Int), z.bind ev = some (.int n) → z.map a.eval = some (.int .i64 n) := by
    intro z n hz
    cases z with
    | none => simp at hz
    | some z => simp only [Option.bind_some] at hz; simp only [Option.map_some]; rw [show a.eval z = _ from (hev z _ hz).self]
  have getN : ∀ (z : Option Operand), (∀ y, z = some y → (ev y).isSome = true) → z.bind ev = none → z = none := by
    intro z h1 h2
    cases z with
    | none => rfl
    | some y => simp only [Option.bind_some] at h2; have := h1 y rfl; rw [h2] at this; simp at this
  unfold sliceAV at h
  split at h
  · rename_i l hl
    split at h
    · rename_i hh hhe
      split at h
      · rename_i τ xs
        simp only [Option.some.injEq] at h; subst h
        obtain ⟨h1, h2, h3⟩ := hvc
        exact good_slice_rs F ht he (hsz.1 _ _ rfl) ho hx (l := l.toNat) (h := hh.toNat) (.inr (by rw [getI lo l hl, Int.toNat_of_nonneg h1])) (.inr (by rw [getI hi hh hhe, Int.toNat_of_nonneg (by omega)])) (by omega) (by omega) rfl
      · rename_i xss
        simp only [Option.some.injEq] at h; subst h
        obtain ⟨h1, h2, h3⟩ := hvc
        exact good_slice_rows F ht he (hsz.2 _ rfl) ho hx (l := l.toNat) (h := hh.toNat) (.inr (by rw [getI lo l hl, Int.toNat_of_nonneg h1])) (.inr (by rw [getI hi hh hhe, Int.toNat_of_nonneg (by omega)])) (by omega) (by omega) rfl
      · cases h
    · rename_i hhe
      have hn := getN hi hhi hhe
      split at h
      · rename_i τ xs
        simp only [Option.some.injEq] at h; subst h
        obtain ⟨h1, h2⟩ := hvc
        exact good_slice_rs F ht he (hsz.1 _ _ rfl) ho hx (l := l.toNat) (h := xs.length) (.inr (by rw [getI lo l hl, Int.toNat_of_nonneg h1])) (.inl ⟨hn, rfl⟩) (by omega) (by omega) (by rw [List.take_length])
      · rename_i xss
        simp only [Option.some.injEq] at h; subst h
        obtain ⟨h1, h2⟩ := hvc
        exact good_slice_rows F ht he (hsz.2 _ rfl) ho hx (l := l.toNat) (h := xss.length) (.inr (by rw [getI lo l hl, Int.toNat_of_nonneg h1])) (.inl ⟨hn, rfl⟩) (by omega) (by omega) (by rw [List.take_length])
      · cases h
    · cases h
  · rename_i hl
    have hn := getN lo hlo hl
    split at h
    · rename_i hh hhe
      split at h
      · rename_i τ xs
        simp only [Option.some.injEq] at h; subst h
        obtain ⟨h1, h2⟩ := hvc
        exact good_slice_rs F ht he (hsz.1 _ _ rfl) ho hx (l := 0) (h := hh.toNat) (.inl ⟨hn, rfl⟩) (.inr (by rw [getI hi hh hhe, Int.toNat_of_nonneg (by omega)])) (by omega) (by omega) (by rw [List.drop_zero])
      · rename_i xss
        simp only [Option.some.injEq] at h; subst h
        obtain ⟨h1, h2⟩ := hvc
        exact good_slice_rows F ht he (hsz.2 _ rfl) ho hx (l := 0) (h := hh.toNat) (.inl ⟨hn, rfl⟩) (.inr (by rw [getI hi hh hhe, Int.toNat_of_nonneg (by omega)])) (by omega) (by omega) (by rw [List.drop_zero])
      · cases h
    · cases h
  · cases h


theorem kd_some {t : TypeId} {k : Kd} (h : (T t).map TD.kd = some k) : ∃ d, T t = some d ∧ d.kd = k := by
  rw [Option.map_eq_some_iff] at h; exact h

theorem srcRows_sound {x : AV} {v : Value} {ys : List (List Int)} (hns : ∀ r, x ≠ .sl r) (hx : RelV w (E.D σ) σ x v) (h : srcRows H x = some ys) : ∃ us : List Value, us.length = ys.length ∧ Src w v ys.length us ∧ (∀ u ∈ us, u.oneCell' = true) ∧
    ∀ (i : Nat) (u : Value) (zs : List Int), us[i]? = some u → ys[i]? = some zs → ROflat w (E.D σ) .i64 zs u := by
  unfold srcRows at h
  cases x <;> simp only [reduceCtorEq, Option.some.injEq] at h
  case nils => subst h; exact ⟨[], rfl, ⟨none, 0, hx, .inl ⟨rfl, rfl⟩⟩, by simp, by simp⟩
  case rows xss =>
    subst h
    rcases hx with ⟨rfl, ad, c, hv⟩ | ⟨b, off, cap, us, hv, _, _, _, h5, h6, h7⟩
    · refine ⟨[], rfl, ?_, by simp, by simp⟩
      cases ad with
      | none => exact ⟨none, c, hv, .inl ⟨rfl, rfl⟩⟩
      | some A => exact ⟨_, c, hv, .inr ⟨A, rfl, by simp⟩⟩
    · refine ⟨us, h5, ⟨_, cap, hv, .inr ⟨_, rfl, fun j u hu => by rw [add_lit]; exact h6 j u hu⟩⟩, ?_, h7⟩
      intro u hu
      obtain ⟨i, hi⟩ := List.getElem?_of_mem hu
      have hlt : i < xss.length := by rw [← h5]; exact (List.getElem?_eq_some_iff.1 hi).1
      exact cell1_one (σ' := σ) (x := .rs .i64 (xss[i]'hlt)) rfl (h7 i u _ hi (List.getElem?_eq_getElem hlt))
  case sl r => exact absurd rfl (hns r)

theorem step_append (hT : ∀ t d, T t = some d → TyOK E.P t d) (F : Fits E fr H Kn σ a w) {c : Call} {x y : Operand} {t : TypeId} {d : TD} {p z : AV} {eff : Eff} (hnx : ∀ i, i < eff.news → ¬ Kn (nx + i)) (ho : o.op = .call c) (hc : c.callee = .builtin .append) (ha : c.args.toList = [x, y]) (hat : c.argTypes.toList = [t, t])
    (hd : T t = some d) (hx : Knows E Kn σ w p (a.eval x)) (hy : Knows E Kn σ w z (a.eval y)) (h : appAV H nx d p z = some eff) (hvc : eff.vc) : Good E fr H Kn a w o nx eff := by
  have hTy := hT t d hd
  unfold appAV at h
  split at h
  · rename_i e τ hk
    split at h
    · cases h
    · rename_i ys hys
      have hsrc := srcFlat_sound F hy.self hys
      split at h
      · simp only [Option.some.injEq] at h; subst h
        exact good_appnil F (by simpa using hnx 0 (by simp)) hTy hk ho hc ha hat hx.self hsrc hvc
      · split at h
        · rename_i e' τ' xs hH
          split at h
          · rename_i he
            obtain ⟨h1, h2⟩ := he
            subst h1; subst h2
            split at h
            · split at h
              · cases h
              · simp only [Option.some.injEq] at h; subst h
                exact good_app F (by simpa using hnx 0 (by simp)) hTy hk ho hc ha hat hx hH hsrc hvc
            · simp only [Option.some.injEq] at h; subst h
              exact good_app F (by simpa using hnx 0 (by simp)) hTy hk ho hc ha hat hx hH hsrc hvc
          · cases h
        · cases h
      · cases h
  · rename_i e hk
    split at h
    · cases h
    · rename_i ys hys
      split at h
      · split at h
        · rename_i e' xs hH
          split at h
          · rename_i he
            subst he
            split at h
            · cases h
            · rename_i hns
              simp only [Option.some.injEq] at h; subst h
              obtain ⟨us, h1, h2, h3, h4⟩ := srcRows_sound (fun r e => hns r e) hy.self hys
              exact good_appr F (by simpa using hnx 0 (by simp)) hTy hk ho hc ha hat hx hH us h1 h2 h3 h4 hvc
          · cases h
        · cases h
      · cases h
  · cases h

/-- Every operation that the step takes. -/
theorem step_sound (hT : ∀ t d, T t = some d → TyOK E.P t d) (hG : ∀ f C, Γ f = some C → Meets E.P f C) (F : Fits E fr H Kn σ a w) (hev : ∀ x y, ev x = some y → Knows E Kn σ w y (a.eval x)) {eff : Eff} (hnx : ∀ i, i < eff.news → ¬ Kn (nx + i))
    (h : stepOp T Γ mb ev H nx o = some eff) (hvc : eff.vc) : Step E fr H Kn a w o nx eff := by
  cases hop : o.op <;> simp only [stepOp, hop, reduceCtorEq] at h
  case move x =>
    rw [Option.map_eq_some_iff] at h; obtain ⟨y, hy, rfl⟩ := h
    exact (good_move F (.inl hop) (hev x y hy)).step
  case assign x =>
    rw [Option.map_eq_some_iff] at h; obtain ⟨y, hy, rfl⟩ := h
    exact (good_move F (.inr hop) (hev x y hy)).step
  case binOp op t x y t' =>
    split at h
    · rename_i p q hp hq
      split at h
      · rename_i b
        split at h
        · rename_i hk
          obtain ⟨d, hd, hk⟩ := kd_some hk
          rw [Option.map_eq_some_iff] at h; obtain ⟨r, hr, rfl⟩ := h
          have hu : E.P.underlying t = some .bool := by have h3 := (hT t d hd).2.2; simp only [hk] at h3; exact h3
          have hqb : ∃ b2, q = .bool b2 := by cases q <;> simp [binAV] at hr; exact ⟨_, rfl⟩
          obtain ⟨b2, rfl⟩ := hqb
          exact (good_binb F hop hu (hev x _ hp).self (hev y _ hq).self hr).step
        · cases h
      · rename_i hnb
        rw [Option.map_eq_some_iff] at h; obtain ⟨r, hr, rfl⟩ := h
        have hpq : ∃ m n, p = .int m ∧ q = .int n := by
          unfold binAV at hr
          split at hr
          · exact ⟨_, _, rfl, rfl⟩
          · exact absurd rfl (hnb _)
          · cases hr
        obtain ⟨m, n, rfl, rfl⟩ := hpq
        exact (good_bin F hop (hev x _ hp).self (hev y _ hq).self hr hvc).step
    · cases h
  case unOp op t x =>
    split at h
    · rename_i b hb
      simp only [Option.some.injEq] at h; subst h
      exact (good_not F hop (hev x _ hb)).step
    · rename_i n hn
      simp only [Option.some.injEq] at h; subst h
      exact (good_neg F hop (hev x _ hn) hvc).step
    · cases h
  case convert s t x =>
    split at h
    · rename_i d n hs hk hn
      obtain ⟨d2, hd2, hk⟩ := kd_some hk
      simp only [Option.some.injEq] at h; subst h
      have hu : E.P.underlying t = some (.int .i64) := by have h3 := (hT t d2 hd2).2.2; simp only [hk] at h3; exact h3
      exact (good_conv F hop hu (hT s d hs).und (hev x _ hn).self hvc).step
    · rename_i d n hs hk hn
      obtain ⟨d2, hd2, hk⟩ := kd_some hk
      simp only [Option.some.injEq] at h; subst h
      have hu : E.P.underlying t = some (.int .i64) := by have h3 := (hT t d2 hd2).2.2; simp only [hk] at h3; exact h3
      exact (good_conv F hop hu (hT s d hs).und (hev x _ hn).self hvc).step
    · cases h
  case nilCheck x =>
    split at h
    · rename_i cs hx
      simp only [Option.some.injEq] at h; subst h
      exact (good_nil_rp F hop (hev x _ hx)).step
    · rename_i r k hx
      simp only [Option.some.injEq] at h; subst h
      exact (good_nil_op F hop (hev x _ hx) hvc).step
    · rename_i f cs hx
      simp only [Option.some.injEq] at h; subst h
      exact (good_nil_clo F hop (hev x _ hx)).step
    · cases h
  case extract x i =>
    split at h
    · rename_i fs hx
      rw [Option.map_eq_some_iff] at h; obtain ⟨y, hy, rfl⟩ := h
      exact (good_extract F hop (hev x _ hx) hy).step
    · cases h
  case field t x k =>
    split at h
    · rename_i d fs hd hx
      split at h
      · rename_i hc
        rw [Option.map_eq_some_iff] at h; obtain ⟨y, hy, rfl⟩ := h
        have hs : d.kd = .str := by have h1 := hc.1; unfold isStr at h1; cases hk : d.kd <;> simp [hk] at h1; rfl
        exact (good_field F (hT t d hd) hs hop (hev x _ hx) hc.2 hy).step
      · cases h
    · cases h
  case fieldAddr t x k =>
    have hstr : ∀ d : TD, isStr d = true → d.kd = .str := fun d h1 => by unfold isStr at h1; cases hk : d.kd <;> simp [hk] at h1; rfl
    split at h
    · rename_i d cs hd hx
      split at h
      · rename_i hc
        rw [Option.map_eq_some_iff] at h; obtain ⟨y, hy, rfl⟩ := h
        exact (good_fa_rp F (hT t d hd) (hstr d hc.1) hop (hev x _ hx) hc.2 hy).step
      · cases h
    · rename_i d r hd hx
      split at h
      · rename_i hc
        simp only [Option.some.injEq] at h; subst h
        exact (good_fa_op F (hT t d hd) (hstr d hc.1) hop (hev x _ hx) hc.2 hvc).step
      · cases h
    · rename_i d r z i hd hx
      split at h
      · rename_i hc
        simp only [Option.some.injEq] at h; subst h
        exact (good_fa_oe F (hT t d hd) (hstr d hc.1) hop (hev x _ hx) hc.2 hvc).step
      · cases h
    · cases h
  case box t x =>
    split at h
    · rename_i d y hd hx
      split at h
      · rename_i hc
        split at h
        · split at h
          · rename_i hcl
            simp only [Option.some.injEq] at h; subst h
            exact (good_boxown F (by simpa using hnx 0 (by simp)) hop (hev x _ hx) hc.2.2 hcl).step
          · cases h
        · simp only [Option.some.injEq] at h; subst h
          exact (good_box F hop (hev x _ hx) hc.2.2 (by omega)).step
      · cases h
    · cases h
  case alloc t =>
    split at h
    · rename_i d hd
      split at h
      · rename_i hc
        simp only [Option.some.injEq] at h; subst h
        exact (good_alloc F (by simpa using hnx 0 (by simp)) (hT t d hd) hop hc.1).step
      · cases h
    · cases h
  case load t x =>
    split at h
    · rename_i d y hd hx
      rw [Option.map_eq_some_iff] at h; obtain ⟨q, hq, rfl⟩ := h
      exact (good_load F (hT t d hd) hop (hev x _ hx) hq).step
    · cases h
  case store t x y =>
    split at h
    · rename_i d p z hd hx hy
      rw [Option.map_eq_some_iff] at h; obtain ⟨u, hu, rfl⟩ := h
      exact (good_storeAV F (hT t d hd) hop (hev x _ hx) (hev y _ hy) hu).step
    · cases h
  case indexAddr t x y =>
    split at h
    · rename_i d p z hd hx hy
      rw [Option.map_eq_some_iff] at h; obtain ⟨q, hq, rfl⟩ := h
      exact (good_idx F (hT t d hd) hop (hev x _ hx) (hev y _ hy) hq hvc).step
    · cases h
  case slice t x lo hi mx =>
    split at h
    · rename_i hc
      simp only [Bool.and_eq_true, Option.all_eq_true] at hc
      split at h
      · rename_i _ e τ' τ xs hk hx
        obtain ⟨d, hd, hk⟩ := kd_some hk
        split at h
        · rename_i hτ
          subst hτ
          rw [Option.map_eq_some_iff] at h; obtain ⟨q, hq, rfl⟩ := h
          obtain ⟨hu, ie, hi, _, hsz, _⟩ := (hT t d hd).slice hk
          exact (good_sliceAV F hu hi hop (hev x _ hx) ⟨fun τ2 xs2 e2 => (by cases e2; exact hsz), fun xss e2 => (by cases e2)⟩ hev hc.1 hc.2 hq hvc).step
        · cases h
      · rename_i _ e xss hk hx
        obtain ⟨d, hd, hk⟩ := kd_some hk
        rw [Option.map_eq_some_iff] at h; obtain ⟨q, hq, rfl⟩ := h
        obtain ⟨hu, ie, hi, _, hsz, _⟩ := (hT t d hd).slicer hk
        exact (good_sliceAV F hu hi hop (hev x _ hx) ⟨fun τ2 xs2 e2 => (by cases e2), fun xss e2 => hsz⟩ hev hc.1 hc.2 hq hvc).step
      · cases h
    · cases h
  case build t ps =>
    split at h
    · rename_i d ys hd hys
      split at h
      · rename_i hc
        rw [Option.map_eq_some_iff] at h; obtain ⟨fs, hfs, rfl⟩ := h
        have hs : d.kd = .str := by have h1 := hc.1; unfold isStr at h1; cases hk : d.kd <;> simp [hk] at h1; rfl
        have hl := evL_sound hev _ _ hys
        rw [List.map_map] at hl
        exact (good_build F (hT t d hd) hs hop hl hfs hc.2).step
      · cases h
    · cases h
  case buildSlice t n ps =>
    split at h
    · rename_i e τ ys hk hys
      obtain ⟨d, hd, hk⟩ := kd_some hk
      split at h
      · rename_i hc
        rw [Option.map_eq_some_iff] at h; obtain ⟨xs, hxs, rfl⟩ := h
        have hl := evL_sound hev _ _ hys
        rw [List.map_map] at hl
        exact (good_buildSlice F (by simpa using hnx 0 (by simp)) (hT t d hd) hk hop hl hc.1 hc.2 hxs).step
      · cases h
    · rename_i e ys hk hys
      obtain ⟨d, hd, hk⟩ := kd_some hk
      split at h
      · rename_i hc
        rw [Option.map_eq_some_iff] at h; obtain ⟨xs, hxs, rfl⟩ := h
        have hl := evL_sound hev _ _ hys
        rw [List.map_map] at hl
        exact (good_buildSliceR F (by simpa using hnx 0 (by simp)) (hT t d hd) hk hop hl hc.1 hc.2 hxs).step
      · cases h
    · cases h
  case makeSlice t l c =>
    split at h
    · rename_i e τ n m hk hn hm
      obtain ⟨d, hd, hk⟩ := kd_some hk
      simp only [Option.some.injEq] at h; subst h
      obtain ⟨h1, h2, h3⟩ := hvc
      subst h1
      exact (good_make F (by simpa using hnx 0 (by simp)) (hT t d hd) hk hop (hev l _ hn).self (hev c _ hm).self h2 h3).step
    · rename_i e n m hk hn hm
      obtain ⟨d, hd, hk⟩ := kd_some hk
      simp only [Option.some.injEq] at h; subst h
      obtain ⟨h1, h2, h3⟩ := hvc
      subst h1
      exact (good_maker F (by simpa using hnx 0 (by simp)) (hT t d hd) hk hop (hev l _ hn).self (hev c _ hm).self h2 h3).step
    · cases h
  case makeFunc fn first caps =>
    split at h
    · rename_i f ys hf hys
      simp only [Option.some.injEq] at h; subst h
      exact (good_func F hop hf (evL_sound hev _ _ hys)).step
    · cases h
  case call c =>
    split at h
    · rename_i hc
      split at h
      · rename_i x t ha hat
        split at h
        · rename_i e τ n hk hn
          obtain ⟨d, hd, hk⟩ := kd_some hk
          simp only [Option.some.injEq] at h; subst h
          rw [Option.bind_eq_some_iff] at hn; obtain ⟨p, hp, hn⟩ := hn
          obtain ⟨ad, m, cap, hv, rfl⟩ := lenAV_sound F (hev x p hp).self hn
          exact (good_len F ((hT t d hd).slice hk).1 hop hc ha hat hv).step
        · rename_i e n hk hn
          obtain ⟨d, hd, hk⟩ := kd_some hk
          simp only [Option.some.injEq] at h; subst h
          rw [Option.bind_eq_some_iff] at hn; obtain ⟨p, hp, hn⟩ := hn
          obtain ⟨ad, m, cap, hv, rfl⟩ := lenAV_sound F (hev x p hp).self hn
          exact (good_len F ((hT t d hd).slicer hk).1 hop hc ha hat hv).step
        · cases h
      · cases h
    · rename_i hc
      split at h
      · rename_i x y t t' ha hat
        split at h
        · rename_i ht
          subst ht
          split at h
          · rename_i d p z hd hp hz
            exact (step_append hT F hnx hop hc ha hat hd (hev x _ hp) (hev y _ hz) h hvc).step
          · cases h
        · cases h
      · cases h
    · rename_i hc
      split at h
      · rename_i ys hys
        rw [Option.map_eq_some_iff] at h; obtain ⟨n, hn, rfl⟩ := h
        exact (good_max F hop hc (evL_sound hev _ _ hys) hn).step
      · cases h
    · rename_i hc
      split at h
      · rename_i ys hys
        rw [Option.map_eq_some_iff] at h; obtain ⟨n, hn, rfl⟩ := h
        exact (good_min F hop hc (evL_sound hev _ _ hys) hn).step
      · cases h
    · rename_i f hc
      split at h
      · rename_i g caps ys hf hys
        split at h
        · rename_i C hC
          split at h
          · rename_i as os sn hconv
            split at h
            · rename_i R hR
              split at h
              · rename_i hok
                simp only [Option.some.injEq] at h; subst h
                exact step_call F (hG g C hC) hop hc (hev f _ hf) (evL_sound hev _ _ hys) hconv hR hok hvc hnx
              · cases h
            · cases h
          · cases h
        · cases h
      · cases h
    · cases h

end
end Go.Proofs.Ytpiaeckkjdcifaa
