/- The core of the method, part N: a function meets its contract if its code does, from the abstract state of its entry. No condition. -/
import Derived.Test.YtpiaeckkjdcifaaCoreM
namespace Go.Proofs.Ytpiaeckkjdcifaa
set_option linter.unusedVariables false
set_option linter.unusedSimpArgs false
open Go

def ownAV (i : Nat) : Own → AV
  | .var _ => .op i 0
  | _ => .sl i
/-- The abstract state at a function's entry. -/
def initGo (i : Nat) : List Md → List AV → List Own → Option (List (Nat × AV) × List (Nat × Option Own))
  | [], [], [] => some ([], [])
  | .m :: ms, xs, o :: os => (initGo (i + 1) ms xs os).map fun q => ((i, ownAV i o) :: q.1, (i, some o) :: q.2)
  | .v _ :: ms, x :: xs, os => (initGo (i + 1) ms xs os).map fun q => ((i, x) :: q.1, q.2)
  | _, _, _ => none
def initSt (nt : Nat) (ms : List Md) (xs : List AV) (os : List Own) : Option AState := (initGo 0 ms xs os).map fun q => ⟨q.1, q.2, nt⟩
/-- The slots of what is lent. -/
def mIdx (i : Nat) : List Md → List Nat
  | [] => []
  | .m :: ms => i :: mIdx (i + 1) ms
  | .v _ :: ms => mIdx (i + 1) ms

mutual
/-- Nothing that is only read. -/
def noRo : AV → Bool
  | .int _ | .u8 _ | .bool _ | .val _ | .nils | .sl _ | .op _ _ => true
  | .junk | .oe _ _ _ _ | .when _ _ | .rs _ _ | .rows _ | .rp _ => false
  | .clo _ fs => noRoL fs
  | .agg fs | .tup fs => noRoL fs
def noRoL : List AV → Bool
  | [] => true
  | x :: xs => noRo x && noRoL xs
end
def noRoO : Own → Bool
  | .sl _ _ _ | .mat _ _ _ => true
  | .var cs => noRoL cs
  | _ => false

section
variable (T : TypeId → Option TD)
def resL (st : AState) : List ResultVar → Option (List AV)
  | [] => some []
  | .tmp t :: l => match look st.fr t, resL st l with
    | some x, some xs => some (x :: xs)
    | _, _ => none
  | .cell t ty :: l => match T ty, look st.fr t, resL st l with
    | some d, some (.op r 0), some xs => (match applyUps st.H noH r with
      | some (.var cs) => if isStr d = true ∧ cs.length = d.size then some (.agg cs :: xs) else none
      | _ => none)
    | _, _, _ => none
def resAV (st : AState) (rv : List ResultVar) : Option AV :=
  match resL T st rv with
  | some [x] => some x
  | some xs => some (.tup xs)
  | none => none

/-- What a function hands back is what its contract says; 'rs': the names of the new things. -/
structure RetOK (fn : Func) (C : Ctr) (R : CRes) (rs : List Nat) (st : AState) : Prop where
  res : resAV T st fn.results.toList = some (renV (fun i => rs.getD i 0) R.res)
  bnd : boundV R.new.length R.res = true
  len : rs.length = R.new.length
  nodup : rs.Nodup
  fresh : ∀ r ∈ rs, r ∉ mIdx 0 C.modes
  news : ∀ i, i < rs.length → applyUps st.H noH (rs.getD i 0) = R.new[i]?
  mlen : R.muts.length = (mIdx 0 C.modes).length
  muts : ∀ i, i < R.muts.length → applyUps st.H noH ((mIdx 0 C.modes).getD i 0) = R.muts[i]?
  ro : C.al = true ∨ (noRo R.res = true ∧ R.new.all noRoO = true ∧ R.muts.all noRoO = true)

def retQ (fn : Func) (C : Ctr) (R : CRes) : Exit → AState → Prop
  | .normal, s => ∃ rs, RetOK T fn C R rs s
  | .ret, s => ∃ rs, RetOK T fn C R rs s
  | _, _ => False
end

mutual
theorem RelV.noro {w : World} {D D' : Nat → Prop} {σ : Sig} : ∀ (x : AV) (v : Value), noRo x = true → RelV w D σ x v → RelV w D' σ x v
  | .int _, _, _, h => h
  | .u8 _, _, _, h => h
  | .bool _, _, _, h => h
  | .val _, _, _, h => h
  | .junk, _, hc, _ => by simp [noRo] at hc
  | .nils, _, _, h => h
  | .rs _ _, _, hc, _ => by simp [noRo] at hc
  | .rows _, _, hc, _ => by simp [noRo] at hc
  | .agg fs, _, hc, ⟨cs, hv, hl⟩ => ⟨cs, hv, RelL.noro fs cs (by simpa [noRo] using hc) hl⟩
  | .tup fs, _, hc, ⟨cs, hv, hl⟩ => ⟨cs, hv, RelL.noro fs cs (by simpa [noRo] using hc) hl⟩
  | .rp _, _, hc, _ => by simp [noRo] at hc
  | .sl _, _, _, h => h
  | .op _ _, _, _, h => h
  | .oe _ _ _ _, _, hc, _ => by simp [noRo] at hc
  | .clo f caps, _, hc, ⟨cs, hv, hl⟩ => ⟨cs, hv, RelL.noro caps cs (by simpa [noRo] using hc) hl⟩
  | .when _ _, _, hc, _ => by simp [noRo] at hc
theorem RelL.noro {w : World} {D D' : Nat → Prop} {σ : Sig} : ∀ (xs : List AV) (vs : List Value), noRoL xs = true → RelL w D σ xs vs → RelL w D' σ xs vs
  | [], _, _, h => h
  | x :: xs, _, hc, ⟨v, vs', hv, hx, hl⟩ => by
    simp only [noRoL, Bool.and_eq_true] at hc
    exact ⟨v, vs', hv, RelV.noro x v hc.1 hx, RelL.noro xs vs' hc.2 hl⟩
end
theorem OwnRel.noro {w : World} {D D' : Nat → Prop} {σ : Sig} {o : Own} {s : Value} {bs : List Nat} (hc : noRoO o = true) (h : OwnRel w D σ o s bs) : OwnRel w D' σ o s bs := by
  cases o with
  | sl e τ xs => exact h
  | rows e xss => simp [noRoO] at hc
  | mat e e' xss => exact h
  | var cs => obtain ⟨b, t, cur, h1, h2, h3, h4, h5⟩ := h; exact ⟨b, t, cur, h1, h2, h3, RelL.noro _ _ hc h4, h5⟩

section
variable {E : Env} {st : AState} {a : Act} {w : World} {σ : Sig} {T : TypeId → Option TD}

def resF (a : Act) (x : ResultVar) : Sem Value := match x with
  | .tmp t => pure (a.tmps.getD t undef)
  | .cell a' t => do loadVar t (← asAddr (a.tmps.getD a' undef))

theorem resL_sound (hT : ∀ t d, T t = some d → TyOK E.P t d) (F : Fits E (look st.fr) (applyUps st.H noH) (fun r => r < st.nx) σ a w) : ∀ (rv : List ResultVar) (xs : List AV), resL T st rv = some xs →
    ∃ vs : List Value, (rv.mapM (resF a)).run E.P w = .ok vs w ∧ RelL w (E.D σ) σ xs vs
  | [], xs, h => by
    simp only [resL, Option.some.injEq] at h; subst h
    exact ⟨[], by simp, rfl⟩
  | .tmp t :: l, xs, h => by
    simp only [resL] at h
    split at h
    · rename_i x xs' hx hxs
      simp only [Option.some.injEq] at h; subst h
      obtain ⟨vs, h1, h2⟩ := resL_sound hT F l xs' hxs
      refine ⟨_ :: vs, ?_, _, vs, rfl, F.frame t x hx σ (fun _ _ => rfl), h2⟩
      simp only [List.mapM_cons, resF, Sem.run_bind, Sem.run_pure, Result.andThen_ok, h1]
    · cases h
  | .cell t ty :: l, xs, h => by
    simp only [resL] at h
    split at h
    · rename_i d r xs' hd hx hxs
      split at h
      · rename_i cs hH
        split at h
        · rename_i hc
          simp only [Option.some.injEq] at h; subst h
          obtain ⟨vs, h1, h2⟩ := resL_sound hT F l xs' hxs
          obtain ⟨s, bs, h3, h4⟩ := F.heap r _ hH
          obtain ⟨b, h5, h6⟩ := F.frame t _ hx σ (fun _ _ => rfl) s bs h3
          obtain ⟨b0, t0, cur, h7, h8, h9, h10, h11⟩ := h4 σ (fun _ _ => rfl)
          rw [h5] at h7; simp only [Value.pointer.injEq, Option.some.injEq, Addr.mk.injEq, and_true] at h7; subst h7
          have hld := run_loadVar_cells (hT ty d hd) hc.1 w b 0 cur.toList (by rw [← h10.length, hc.2]) (fun k u hu => by rw [cell_of_row w b _ cur t0 (0, 0) h9]; simpa using hu)
          refine ⟨_ :: vs, ?_, .agg cur.toList.toArray, vs, rfl, ⟨_, rfl, h10⟩, h2⟩
          simp only [List.mapM_cons, resF, Sem.run_bind, h6, asAddr, Sem.run_pure, Result.andThen_ok, hld, h1]
        · cases h
      · cases h
    · cases h

theorem resAV_sound (hT : ∀ t d, T t = some d → TyOK E.P t d) (F : Fits E (look st.fr) (applyUps st.H noH) (fun r => r < st.nx) σ a w) {fn : Func} {x : AV} (h : resAV T st fn.results.toList = some x) :
    ∃ v, (results fn a.tmps).run E.P w = .ok v w ∧ RelV w (E.D σ) σ x v := by
  unfold resAV at h
  have key : ∀ xs, resL T st fn.results.toList = some xs → ∃ vs : List Value, (results fn a.tmps).run E.P w = .ok (if h : vs.toArray.size = 1 then vs.toArray[0] else .tuple vs.toArray) w ∧ RelL w (E.D σ) σ xs vs := by
    intro xs hxs
    obtain ⟨vs, h1, h2⟩ := resL_sound hT F _ xs hxs
    refine ⟨vs, ?_, h2⟩
    have e : results fn a.tmps = (do let vs ← fn.results.mapM (resF a); pure (if h : vs.size = 1 then vs[0] else .tuple vs)) := rfl
    rw [e, Array.mapM_eq_mapM_toList]
    simp only [map_eq_pure_bind, bind_assoc, pure_bind, Sem.run_bind, h1, Result.andThen_ok, Sem.run_pure]
  split at h
  · rename_i y hy
    simp only [Option.some.injEq] at h; subst h
    obtain ⟨vs, h1, v, vs', rfl, h3, h4⟩ := key _ hy
    have h4 : vs' = [] := h4
    subst h4
    exact ⟨v, by simpa using h1, h3⟩
  · rename_i xs hns hxs
    simp only [Option.some.injEq] at h; subst h
    obtain ⟨vs, h1, h2⟩ := key _ hxs
    have hl := h2.length
    have hne : ¬ vs.toArray.size = 1 := by
      intro e
      have hl1 : xs.length = 1 := by rw [hl]; simpa using e
      obtain ⟨y, rfl⟩ := List.length_eq_one_iff.1 hl1
      exact hns y rfl
    rw [dif_neg hne] at h1
    exact ⟨_, h1, vs, rfl, h2⟩
  · cases h

theorem args_len {D : Nat → Prop} : ∀ (ms : List Md) (xs : List AV) (ss : List (Value × List Nat)) (vs : List Value), ArgsRel w D ms xs ss vs → vs.length = ms.length ∧ ss.length = (mIdx 0 ms).length ∧ ∀ i, (mIdx i ms).length = (mIdx 0 ms).length := by
  intro ms
  have hidx : ∀ (ms : List Md) (i j : Nat), (mIdx i ms).length = (mIdx j ms).length := by
    intro ms
    induction ms with
    | nil => intros; rfl
    | cons md ms ih => intro i j; cases md <;> simp [mIdx, ih (i + 1) (j + 1)]
  induction ms with
  | nil => intro xs ss vs h; cases xs <;> cases ss <;> cases vs <;> simp [ArgsRel] at h; simp [mIdx]
  | cons md ms ih =>
    intro xs ss vs h
    cases md with
    | m =>
      cases ss with
      | nil => cases xs <;> cases vs <;> simp [ArgsRel] at h
      | cons s ss =>
        cases vs with
        | nil => cases xs <;> simp [ArgsRel] at h
        | cons v vs =>
          have h : v = s.1 ∧ ArgsRel w D ms xs ss vs := by cases xs <;> exact h
          obtain ⟨h1, h2, _⟩ := ih xs ss vs h.2
          exact ⟨by simp [h1], by simp [mIdx, h2, hidx ms 1 0], fun i => hidx _ _ _⟩
    | v k =>
      cases xs with
      | nil => cases ss <;> cases vs <;> simp [ArgsRel] at h
      | cons x xs =>
        cases vs with
        | nil => cases ss <;> simp [ArgsRel] at h
        | cons v vs =>
          have h : RelV w D noSig x v ∧ ArgsRel w D ms xs ss vs := by cases ss <;> exact h
          obtain ⟨h1, h2, _⟩ := ih xs ss vs h.2
          exact ⟨by simp [h1], by simp [mIdx, h2, hidx ms 1 0], fun i => hidx _ _ _⟩

/-- What the entry's state says of each slot and each name. -/
theorem init_sound {D : Nat → Prop} : ∀ (ms : List Md) (i : Nat) (xs : List AV) (os : List Own) (ss : List (Value × List Nat)) (vs : List Value) (fr : List (Nat × AV)) (H : List (Nat × Option Own)), initGo i ms xs os = some (fr, H) → ArgsRel w D ms xs ss vs → OwnsRel w D noSig os ss →
    (∀ t x, look fr t = some x → i ≤ t ∧ t < i + ms.length ∧ ((∃ v, vs[t - i]? = some v ∧ RelV w D noSig x v ∧ t ∉ mIdx i ms) ∨ (∃ (j : Nat) (o : Own) (s : Value × List Nat), (mIdx i ms)[j]? = some t ∧ os[j]? = some o ∧ ss[j]? = some s ∧ x = ownAV t o ∧ vs[t - i]? = some s.1))) ∧
    (∀ t z, look H t = some z → ∃ (j : Nat) (o : Own) (s : Value × List Nat), (mIdx i ms)[j]? = some t ∧ os[j]? = some o ∧ ss[j]? = some s ∧ z = some o ∧ OwnRel w D noSig o s.1 s.2) ∧
    (∀ (j t : Nat), (mIdx i ms)[j]? = some t → ∃ (o : Own) (s : Value × List Nat), os[j]? = some o ∧ ss[j]? = some s ∧ look H t = some (some o)) ∧ (∀ t ∈ mIdx i ms, i ≤ t ∧ t < i + ms.length) ∧ (mIdx i ms).Nodup
  | [], i, xs, os, ss, vs, fr, H, h, ha, ho => by
    cases xs <;> cases os <;> simp [initGo] at h
    obtain ⟨rfl, rfl⟩ := h
    exact ⟨fun t x h => by simp [look] at h, fun t z h => by simp [look] at h, fun j t h => by simp [mIdx] at h, fun t h => by simp [mIdx] at h, by simp [mIdx]⟩
  | .m :: ms, i, xs, os, ss, vs, fr, H, h, ha, ho => by
    cases os with
    | nil => cases xs <;> simp [initGo] at h
    | cons o os =>
      have h : (initGo (i + 1) ms xs os).map (fun q => ((i, ownAV i o) :: q.1, (i, some o) :: q.2)) = some (fr, H) := by cases xs <;> exact h
      rw [Option.map_eq_some_iff] at h
      obtain ⟨⟨fr', H'⟩, hq, he⟩ := h
      simp only [Prod.mk.injEq] at he
      obtain ⟨rfl, rfl⟩ := he
      cases ss with
      | nil => exact ho.elim
      | cons s ss =>
        cases vs with
        | nil => cases xs <;> simp [ArgsRel] at ha
        | cons v vs =>
          have ha : v = s.1 ∧ ArgsRel w D ms xs ss vs := by cases xs <;> exact ha
          obtain ⟨g1, g2, g3, g4, g5⟩ := init_sound ms (i + 1) xs os ss vs fr' H' hq ha.2 ho.2
          refine ⟨fun t x hx => ?_, fun t z hz => ?_, fun j t hj => ?_, fun t ht => ?_, ?_⟩
          · simp only [look] at hx
            by_cases ht : t = i
            · rw [if_pos ht] at hx; cases hx; subst ht
              refine ⟨Nat.le_refl _, by simp, .inr ⟨0, o, s, by simp [mIdx], rfl, rfl, rfl, by simp [ha.1]⟩⟩
            · rw [if_neg ht] at hx
              obtain ⟨h1, h2, h3⟩ := g1 t x hx
              refine ⟨by omega, by simp; omega, ?_⟩
              have e : t - i = (t - (i + 1)) + 1 := by omega
              rcases h3 with ⟨v', h4, h5, h6⟩ | ⟨j, o', s', h4, h5, h6, h7, h8⟩
              · left; exact ⟨v', by rw [e]; simpa using h4, h5, by simp [mIdx]; exact ⟨ht, h6⟩⟩
              · right; exact ⟨j + 1, o', s', by simpa [mIdx] using h4, by simpa using h5, by simpa using h6, h7, by rw [e]; simpa using h8⟩
          · simp only [look] at hz
            by_cases ht : t = i
            · rw [if_pos ht] at hz; cases hz; subst ht
              exact ⟨0, o, s, by simp [mIdx], rfl, rfl, rfl, ho.1⟩
            · rw [if_neg ht] at hz
              obtain ⟨j, o', s', h4, h5, h6, h7⟩ := g2 t z hz
              exact ⟨j + 1, o', s', by simpa [mIdx] using h4, by simpa using h5, by simpa using h6, h7⟩
          · cases j with
            | zero => simp [mIdx] at hj; subst hj; exact ⟨o, s, rfl, rfl, by simp [look]⟩
            | succ j =>
              simp only [mIdx, List.getElem?_cons_succ] at hj
              obtain ⟨o', s', h4, h5, h6⟩ := g3 j t hj
              have := (g4 t (List.mem_of_getElem? hj)).1
              exact ⟨o', s', by simpa using h4, by simpa using h5, by simp only [look]; rw [if_neg (by omega)]; exact h6⟩
          · simp only [mIdx, List.mem_cons] at ht
            rcases ht with rfl | ht
            · simp
            · have := g4 t ht; simp; omega
          · simp only [mIdx, List.nodup_cons]
            exact ⟨fun hm => by have := (g4 i hm).1; omega, g5⟩
  | .v k :: ms, i, xs, os, ss, vs, fr, H, h, ha, ho => by
    cases xs with
    | nil => cases os <;> simp [initGo] at h
    | cons x0 xs =>
      have h : (initGo (i + 1) ms xs os).map (fun q => ((i, x0) :: q.1, q.2)) = some (fr, H) := by cases os <;> exact h
      rw [Option.map_eq_some_iff] at h
      obtain ⟨⟨fr', H'⟩, hq, he⟩ := h
      simp only [Prod.mk.injEq] at he
      obtain ⟨rfl, rfl⟩ := he
      cases vs with
      | nil => cases ss <;> simp [ArgsRel] at ha
      | cons v vs =>
        have ha : RelV w D noSig x0 v ∧ ArgsRel w D ms xs ss vs := by cases ss <;> exact ha
        obtain ⟨g1, g2, g3, g4, g5⟩ := init_sound ms (i + 1) xs os ss vs fr' H' hq ha.2 ho
        refine ⟨fun t x hx => ?_, g2, g3, fun t ht => ?_, g5⟩
        · simp only [look] at hx
          by_cases ht : t = i
          · rw [if_pos ht] at hx; cases hx; subst ht
            exact ⟨Nat.le_refl _, by simp, .inl ⟨v, by simp, ha.1, fun hm => by have := (g4 t hm).1; omega⟩⟩
          · rw [if_neg ht] at hx
            obtain ⟨h1, h2, h3⟩ := g1 t x hx
            refine ⟨by omega, by simp; omega, ?_⟩
            have e : t - i = (t - (i + 1)) + 1 := by omega
            rcases h3 with ⟨v', h4, h5, h6⟩ | ⟨j, o', s', h4, h5, h6, h7, h8⟩
            · left; exact ⟨v', by rw [e]; simpa using h4, h5, h6⟩
            · right; exact ⟨j, o', s', h4, h5, h6, h7, by rw [e]; simpa using h8⟩
        · have := g4 t ht; simp; omega

theorem init_clean : ∀ (ms : List Md) (i : Nat) (xs : List AV) (os : List Own) (fr : List (Nat × AV)) (H : List (Nat × Option Own)), initGo i ms xs os = some (fr, H) → cleanL xs = true → ∀ t x, look fr t = some x → t ∉ mIdx i ms → cleanV x = true
  | [], i, xs, os, fr, H, h, hc => by
    cases xs <;> cases os <;> simp [initGo] at h
    obtain ⟨rfl, rfl⟩ := h
    intro t x hx; simp [look] at hx
  | .m :: ms, i, xs, os, fr, H, h, hc => by
    cases os with
    | nil => cases xs <;> simp [initGo] at h
    | cons o os =>
      have h : (initGo (i + 1) ms xs os).map (fun q => ((i, ownAV i o) :: q.1, (i, some o) :: q.2)) = some (fr, H) := by cases xs <;> exact h
      rw [Option.map_eq_some_iff] at h
      obtain ⟨⟨fr', H'⟩, hq, he⟩ := h
      simp only [Prod.mk.injEq] at he
      obtain ⟨rfl, rfl⟩ := he
      intro t x hx ht
      simp only [mIdx, List.mem_cons, not_or] at ht
      simp only [look] at hx
      rw [if_neg ht.1] at hx
      exact init_clean ms (i + 1) xs os fr' H' hq hc t x hx ht.2
  | .v k :: ms, i, xs, os, fr, H, h, hc => by
    cases xs with
    | nil => cases os <;> simp [initGo] at h
    | cons x0 xs =>
      have h : (initGo (i + 1) ms xs os).map (fun q => ((i, x0) :: q.1, q.2)) = some (fr, H) := by cases os <;> exact h
      rw [Option.map_eq_some_iff] at h
      obtain ⟨⟨fr', H'⟩, hq, he⟩ := h
      simp only [Prod.mk.injEq] at he
      obtain ⟨rfl, rfl⟩ := he
      simp only [cleanL, Bool.and_eq_true] at hc
      intro t x hx ht
      simp only [look] at hx
      by_cases hti : t = i
      · rw [if_pos hti] at hx; cases hx; exact hc.1
      · rw [if_neg hti] at hx
        exact init_clean ms (i + 1) xs os fr' H' hq hc.2 t x hx ht

mutual
theorem RelV.unren {D : Nat → Prop} {σ1 σ2 : Sig} {f : Nat → Nat} {n : Nat} (h : ∀ r, r < n → ∀ s, σ1 r = some s → σ2 (f r) = some s) : ∀ (x : AV) (v : Value), boundV n x = true → RelV w D σ2 (renV f x) v → RelV w D σ1 x v
  | .int _, _, _, hx => hx
  | .u8 _, _, _, hx => hx
  | .bool _, _, _, hx => hx
  | .val _, _, _, hx => hx
  | .junk, _, hc, _ => by simp [boundV] at hc
  | .nils, _, _, hx => hx
  | .rs _ _, _, _, hx => hx
  | .rows _, _, _, hx => hx
  | .agg fs, _, hc, hx => by simp only [renV] at hx; obtain ⟨cs, hv, hl⟩ := hx; exact ⟨cs, hv, RelL.unren h fs cs (by simpa [boundV] using hc) hl⟩
  | .tup fs, _, hc, hx => by simp only [renV] at hx; obtain ⟨cs, hv, hl⟩ := hx; exact ⟨cs, hv, RelL.unren h fs cs (by simpa [boundV] using hc) hl⟩
  | .rp fs, _, hc, hx => by
    simp only [renV] at hx
    obtain ⟨hne, b, off, us, hv, hD, hcl, hl⟩ := hx
    refine ⟨?_, b, off, us, hv, hD, hcl, RelL.unren h fs us (by simpa [boundV] using hc) hl⟩
    intro e; subst e; simp [renL] at hne
  | .sl r, v, hc, hx => by
    simp only [boundV, decide_eq_true_eq] at hc
    simp only [renV] at hx
    intro s bs hs; exact hx s bs (h r hc _ hs)
  | .op r off, v, hc, hx => by
    simp only [boundV, decide_eq_true_eq] at hc
    simp only [renV] at hx
    intro s bs hs; exact hx s bs (h r hc _ hs)
  | .oe _ _ _ _, _, hc, _ => by simp [boundV] at hc
  | .clo g caps, _, hc, hx => by simp only [renV] at hx; obtain ⟨cs, hv, hl⟩ := hx; exact ⟨cs, hv, RelL.unren h caps cs (by simpa [boundV] using hc) hl⟩
  | .when _ _, _, hc, _ => by simp [boundV] at hc
theorem RelL.unren {D : Nat → Prop} {σ1 σ2 : Sig} {f : Nat → Nat} {n : Nat} (h : ∀ r, r < n → ∀ s, σ1 r = some s → σ2 (f r) = some s) : ∀ (xs : List AV) (vs : List Value), boundL n xs = true → RelL w D σ2 (renL f xs) vs → RelL w D σ1 xs vs
  | [], _, _, hl => hl
  | x :: xs, _, hc, hl => by
    simp only [boundL, Bool.and_eq_true] at hc
    simp only [renL] at hl
    obtain ⟨v, vs', hv, hx, hl⟩ := hl
    exact ⟨v, vs', hv, RelV.unren h x v hc.1 hx, RelL.unren h xs vs' hc.2 hl⟩
end

/-- Where the results are only described. -/
def retR (T : TypeId → Option TD) (fn : Func) (C : Ctr) (S : CRes → Prop) : Exit → AState → Prop := fun e s => ∃ R, S R ∧ retQ T fn C R e s
/-- A FUNCTION MEETS ITS CONTRACT IF ITS CODE DOES. -/
theorem meets_core {P : Program} {f : FuncId} {fn : Func} {body : Code} {C : Ctr} (hT : ∀ t d, T t = some d → TyOK P t d) (hf : P.funcs[f]? = some fn) (hname : (fn.name == "runtime.NumGoroutine") = false) (hbody : fn.body = some body) (hm : C.modes.length ≤ fn.ntmps)
    {rl : List AV → List Own → Option (Prop × (CRes → Prop))}
    (h : ∀ args owns pre S, rl args owns = some (pre, S) → pre → ∃ st0, initSt fn.ntmps C.modes args owns = some st0 ∧ ∀ E : Env, E.P = P → E.nt = fn.ntmps → E.np = C.modes.length → W E body st0 (retR T fn C S)) : MeetsR P f C rl := by
  intro w vs args owns ss A pre S hrun hpre hcla hclo hA hal hargs howns hlt hap
  obtain ⟨st0, hst, hW⟩ := h args owns pre S hrun hpre
  unfold initSt at hst
  rw [Option.map_eq_some_iff] at hst
  obtain ⟨⟨fr, H⟩, hinit, rfl⟩ := hst
  obtain ⟨hl1, hl2, _⟩ := args_len C.modes args ss vs hargs
  obtain ⟨g1, g2, g3, g4, g5⟩ := init_sound C.modes 0 args owns ss vs fr H hinit hargs howns
  let act : Act := { tmps := vs.toArray ++ Array.replicate (fn.ntmps - vs.toArray.size) undef, defers := [] }
  have hslot : ∀ (t : Nat) (v : Value), vs[t]? = some v → act.tmps.getD t undef = v := by
    intro t v hv
    have hlt' : t < vs.length := (List.getElem?_eq_some_iff.1 hv).1
    have hvv := (List.getElem?_eq_some_iff.1 hv).2
    simp [act, Array.getElem?_append, hlt', hvv]
  have happ : ∀ t, applyUps H noH t = (look H t).join := fun t => by simp only [applyUps, noH]; cases look H t <;> rfl
  classical
  let σ0 : Sig := fun t => if h : ∃ j : Nat, (mIdx 0 C.modes)[j]? = some t then ss[Classical.choose h]? else none
  have hσ0 : ∀ (j t : Nat) (s : Value × List Nat), (mIdx 0 C.modes)[j]? = some t → ss[j]? = some s → σ0 t = some s := by
    intro j t s hj hs
    have hex : ∃ j : Nat, (mIdx 0 C.modes)[j]? = some t := ⟨j, hj⟩
    have hc := Classical.choose_spec hex
    have : Classical.choose hex = j := by
      have h1 : (mIdx 0 C.modes)[Classical.choose hex]? = (mIdx 0 C.modes)[j]? := by rw [hc, hj]
      have h2 : Classical.choose hex < (mIdx 0 C.modes).length := (List.getElem?_eq_some_iff.1 hc).1
      exact (List.getElem?_inj h2 g5).1 h1
    simp only [σ0]; rw [dif_pos hex, this]; exact hs
  have hσ1 : ∀ t s, σ0 t = some s → ∃ j : Nat, (mIdx 0 C.modes)[j]? = some t ∧ ss[j]? = some s := by
    intro t s h
    simp only [σ0] at h
    split at h
    · rename_i hex; exact ⟨_, Classical.choose_spec hex, h⟩
    · cases h
  let E : Env := ⟨P, fn.ntmps, w, inB ss, A, C.modes.length, σ0⟩
  have hdomss : ∀ b, Sig.dom σ0 b → inB ss b := by
    rintro b ⟨t, s, bs, h1, h2⟩
    obtain ⟨j, _, h3⟩ := hσ1 t _ h1
    exact ⟨_, List.mem_of_getElem? h3, h2⟩
  have hD : ∀ b, E.D σ0 b → inB ss b ∨ A b := fun b h => h.imp (hdomss b) id
  have hfit : Fits E (look fr) (applyUps H noH) (fun r => r < fn.ntmps) σ0 act w := by
    refine { frame := ?_, heap := ?_, gone := ?_, known := ?_, lt := ?_, disj := ?_, len := ?_, kept := fun _ _ _ => rfl, old := hA, size := Nat.le_refl _, os := rfl, tape := rfl, output := rfl, drawn := Nat.le_refl _, tsz := ?_, dfs := rfl }
    · intro t x hx σ'' h''
      obtain ⟨_, htl, h3⟩ := g1 t x hx
      rcases h3 with ⟨v, h4, h5, h6⟩ | ⟨j, o, s, h4, h5, h6, rfl, h8⟩
      · rw [hslot t v (by simpa using h4)]
        exact RelV.clean noSig σ'' x v (init_clean C.modes 0 args owns fr H hinit hcla t x hx h6) (RelV.stab (dom_weak hD (fun _ => .inr rfl)) x v h5)
      · rw [hslot t _ (by simpa using h8)]
        have hs := hσ0 j t s h4 h6
        have hs2 : σ'' t = some s := by rw [h'' t (by show t < fn.ntmps; omega)]; exact hs
        cases o with
        | var cs =>
          obtain ⟨o', s', h9, h10, h11⟩ := g3 j t h4
          rw [h5] at h9; cases h9
          rw [h6] at h10; cases h10
          obtain ⟨j2, o2, s2', h20, h21, h22, h23, h12⟩ := g2 t _ h11
          have hjj : j2 = j := (List.getElem?_inj (List.getElem?_eq_some_iff.1 h20).1 g5).1 (by rw [h20, h4])
          subst hjj
          rw [h5] at h21; cases h21
          rw [h6] at h22; cases h22
          obtain ⟨b, t0, cur, h24, _⟩ := h12
          intro s2 bs2 h13
          rw [hs2] at h13; cases h13
          exact ⟨b, h24, h24⟩
        | _ =>
          intro s2 bs2 h13
          rw [hs2] at h13; cases h13; rfl
    · intro t o ho
      rw [happ] at ho
      cases hz : look H t with
      | none => rw [hz] at ho; cases ho
      | some z =>
        rw [hz] at ho
        obtain ⟨j, o', s, h1, h2, h3, rfl, h5⟩ := g2 t z hz
        cases ho
        refine ⟨s.1, s.2, hσ0 j t s h1 h3, fun σ'' _ => OwnRel.clean noSig σ'' (List.all_eq_true.1 hclo o (List.mem_of_getElem? h2)) (OwnRel.stab (dom_weak hD (fun _ => .inr rfl)) (fun _ _ => rfl) h5)⟩
    · intro t ho
      cases hz : σ0 t with
      | none => rfl
      | some s =>
        obtain ⟨j, h1, h2⟩ := hσ1 t s hz
        obtain ⟨o', s', h3, h4, h5⟩ := g3 j t h1
        rw [happ, h5] at ho; cases ho
    · intro t ht
      rw [happ]
      cases hz : look H t with
      | none => rfl
      | some z =>
        obtain ⟨j, o', s, h1, _⟩ := g2 t z hz
        have := (g4 t (List.mem_of_getElem? h1)).2
        exact absurd (show t < fn.ntmps by omega) ht
    · intro t s bs h b hb
      obtain ⟨j, h1, h2⟩ := hσ1 t _ h
      have hin : inB ss b := ⟨_, List.mem_of_getElem? h2, hb⟩
      exact ⟨hlt b hin, .inr hin⟩
    · intro t t' s bs s' bs' h1 h2 hne b hb
      obtain ⟨j, h3, h4⟩ := hσ1 t _ h1
      obtain ⟨j', h5, h6⟩ := hσ1 t' _ h2
      exact hap j j' _ _ h4 h6 (fun e => hne (by subst e; rw [h3] at h5; cases h5; rfl)) b hb
    · intro p s hp
      obtain ⟨j, h1, _⟩ := hσ1 p s hp
      have := (g4 p (List.mem_of_getElem? h1)).2
      exact ⟨by show p < fn.ntmps; omega, by show p < C.modes.length; omega, fun _ _ => hp⟩
    · simp [act, E]; omega
  refine calls_of_wp hf hbody (wp_mono (hW E rfl rfl rfl act w ⟨σ0, hfit⟩) ?_)
  rintro e a' w' ⟨s, ⟨σ, F⟩, R, hSR, hq⟩
  have done : (∃ rs, RetOK T fn C R rs s) → a'.defers = [] ∧ ∃ v, (results fn a'.tmps).run P w' = .ok v w' ∧ (∃ R, S R ∧ ∃ v' ns, Ending.returned v = .returned v' ∧ Moved w w' (inB ss) ∧ OwnsRel w' (fun b => inB ss b ∨ inB ns b ∨ A b) noSig R.muts ss ∧
      OwnsRel w' (fun b => inB ss b ∨ inB ns b ∨ avoid C w A b) noSig R.new ns ∧ (∀ b, inB ns b → w.heap.size ≤ b ∧ b < w'.heap.size) ∧ ApartL ns ∧
      RelV w' (fun b => inB ss b ∨ inB ns b ∨ avoid C w A b) (newSig ns) R.res v') := by
    rintro ⟨rs, hret⟩
    obtain ⟨v, hv, hrel⟩ := resAV_sound (E := E) hT F hret.res
    -- the new things' values and blocks
    let ns : List (Value × List Nat) := rs.map fun r => (σ r).getD (undef, [])
    have hnl : ns.length = R.new.length := by simp [ns, hret.len]
    have hnget : ∀ i, i < rs.length → ∃ s' bs', σ (rs.getD i 0) = some (s', bs') ∧ ns[i]? = some (s', bs') ∧ rs[i]? = some (rs.getD i 0) := by
      intro i hi
      have h1 := hret.news i hi
      rw [List.getElem?_eq_getElem (by rw [← hret.len]; exact hi)] at h1
      obtain ⟨s', bs', h2, _⟩ := F.heap _ _ h1
      have h3 : rs[i]? = some (rs.getD i 0) := by simp [List.getD, List.getElem?_eq_getElem hi]
      exact ⟨s', bs', h2, by simp only [ns, List.getElem?_map, h3, Option.map_some, h2, Option.getD_some], h3⟩
    have hnin : ∀ b, inB ns b → ∃ i s' bs', i < rs.length ∧ σ (rs.getD i 0) = some (s', bs') ∧ b ∈ bs' := by
      rintro b ⟨z, hz, hb⟩
      obtain ⟨i, hi⟩ := List.getElem?_of_mem hz
      have hil : i < rs.length := by have := (List.getElem?_eq_some_iff.1 hi).1; simpa [ns] using this
      obtain ⟨s', bs', h2, h3, _⟩ := hnget i hil
      rw [h3] at hi; cases hi
      exact ⟨i, s', bs', hil, h2, hb⟩
    have hmget : ∀ i, i < R.muts.length → ∃ t s', (mIdx 0 C.modes)[i]? = some t ∧ ss[i]? = some s' ∧ applyUps s.H noH t = R.muts[i]? := by
      intro i hi
      have hil : i < (mIdx 0 C.modes).length := by rw [← hret.mlen]; exact hi
      have h1 := hret.muts i hi
      have h2 : (mIdx 0 C.modes)[i]? = some ((mIdx 0 C.modes).getD i 0) := by simp [List.getD, List.getElem?_eq_getElem hil]
      obtain ⟨o', s', h3, h4, h5⟩ := g3 i _ h2
      exact ⟨_, s', h2, h4, h1⟩
    -- a lent thing keeps its value and its blocks
    have hms : ∀ i, i < R.muts.length → ∃ t s' m, (mIdx 0 C.modes)[i]? = some t ∧ ss[i]? = some s' ∧ R.muts[i]? = some m ∧ applyUps s.H noH t = some m ∧ σ t = some s' := by
      intro i hi
      obtain ⟨t, s', h1, h2, h3⟩ := hmget i hi
      rw [List.getElem?_eq_getElem hi] at h3
      exact ⟨t, s', _, h1, h2, List.getElem?_eq_getElem hi, h3, (F.len t s' (hσ0 i t s' h1 h2)).2.2 _ h3⟩
    have hssdom : ∀ b, inB ss b → Sig.dom σ b := by
      rintro b ⟨z, hz, hb⟩
      obtain ⟨i, hi⟩ := List.getElem?_of_mem hz
      have hil : i < R.muts.length := by rw [hret.mlen, ← hl2]; exact (List.getElem?_eq_some_iff.1 hi).1
      obtain ⟨t, s', m, h1, h2, h3, h4, h5⟩ := hms i hil
      rw [hi] at h2; cases h2
      exact ⟨t, _, _, h5, hb⟩
    have hnsdom : ∀ b, inB ns b → Sig.dom σ b := fun b hb => by
      obtain ⟨i, s', bs', _, h2, h3⟩ := hnin b hb
      exact ⟨_, _, _, h2, h3⟩
    have hDal : ∀ b, (inB ss b ∨ inB ns b ∨ A b) → E.D σ b := fun b h => by
      rcases h with h | h | h
      · exact .inl (hssdom b h)
      · exact .inl (hnsdom b h)
      · exact .inr h
    have hrename : RelV w' (E.D σ) (newSig ns) R.res v := by
      -- the names are turned back
      have hfr : ∀ i, i < R.new.length → ∀ z, newSig ns i = some z → σ (rs.getD i 0) = some z := by
        intro i hi z hz
        obtain ⟨s', bs', h2, h3, _⟩ := hnget i (by rw [hret.len]; exact hi)
        simp only [newSig] at hz
        rw [h3] at hz; cases hz; exact h2
      exact RelV.unren hfr R.res v hret.bnd hrel
    refine ⟨F.dfs, v, hv, R, hSR, v, ns, rfl, ⟨fun k hk hm => F.kept k hk hm, F.size, F.os, F.tape, F.output, F.drawn⟩, ?_, ?_, ?_, ?_, ?_⟩
    · refine OwnsRel.of _ _ (by rw [hret.mlen, hl2]) (fun i o z h1 h2 => ?_)
      obtain ⟨t, s', m, h3, h4, h5, h6, h7⟩ := hms i (List.getElem?_eq_some_iff.1 h1).1
      rw [h1] at h5; cases h5
      rw [h2] at h4; cases h4
      obtain ⟨s2, bs2, h8, h9⟩ := F.heap t _ h6
      rw [h7] at h8; cases h8
      exact OwnRel.stab (dom_weak hDal (fun _ => .inr rfl)) (fun _ _ => rfl) (h9 σ (fun _ _ => rfl))
    · refine OwnsRel.of _ _ hnl.symm (fun i o z h1 h2 => ?_)
      have hi : i < rs.length := by rw [hret.len]; exact (List.getElem?_eq_some_iff.1 h1).1
      obtain ⟨s', bs', h3, h4, _⟩ := hnget i hi
      rw [h4] at h2; cases h2
      have h5 := hret.news i hi
      rw [h1] at h5
      obtain ⟨s2, bs2, h8, h9⟩ := F.heap _ _ h5
      rw [h3] at h8; cases h8
      have h10 := h9 σ (fun _ _ => rfl)
      rcases hret.ro with hal' | ⟨_, hnr, _⟩
      · refine OwnRel.stab (dom_weak (fun b hb => hDal b ?_) (fun _ => .inr rfl)) (fun _ _ => rfl) h10
        simpa only [avoid, hal', if_true] using hb
      · exact OwnRel.noro (List.all_eq_true.1 hnr o (List.mem_of_getElem? h1)) (OwnRel.stab (D' := E.D σ) (dom_weak (fun _ h => h) (fun _ => .inr rfl)) (fun _ _ => rfl) h10)
    · intro b hb
      obtain ⟨i, s', bs', h1, h2, h3⟩ := hnin b hb
      obtain ⟨h4, h5⟩ := F.lt _ s' bs' h2 b h3
      refine ⟨?_, h4⟩
      rcases h5 with h5 | h5
      · exact h5
      · -- a new thing is none of the lent ones
        exfalso
        obtain ⟨z, hz, hbz⟩ := h5
        obtain ⟨j, hj⟩ := List.getElem?_of_mem hz
        have hjl : j < R.muts.length := by rw [hret.mlen, ← hl2]; exact (List.getElem?_eq_some_iff.1 hj).1
        obtain ⟨t, s2, m, h6, h7, _, _, h8⟩ := hms j hjl
        rw [hj] at h7; cases h7
        refine F.disj (rs.getD i 0) t s' bs' _ _ h2 h8 (fun e => ?_) b h3 hbz
        have hmem : rs.getD i 0 ∈ rs := by
          obtain ⟨_, _, _, _, h9⟩ := hnget i h1
          exact List.mem_of_getElem? h9
        exact hret.fresh _ hmem (by rw [e]; exact List.mem_of_getElem? h6)
    · intro i j z1 z2 h1 h2 hne b hb1 hb2
      have hi : i < rs.length := by have := (List.getElem?_eq_some_iff.1 h1).1; simpa [ns] using this
      have hj : j < rs.length := by have := (List.getElem?_eq_some_iff.1 h2).1; simpa [ns] using this
      obtain ⟨s1, bs1, h3, h4, h5⟩ := hnget i hi
      obtain ⟨s2, bs2, h6, h7, h8⟩ := hnget j hj
      rw [h4] at h1; cases h1
      rw [h7] at h2; cases h2
      refine F.disj _ _ _ _ _ _ h3 h6 (fun e => hne ?_) b hb1 hb2
      exact (List.getElem?_inj hi hret.nodup).1 (by rw [h5, h8, e])
    · rcases hret.ro with hal' | ⟨hnr, _, _⟩
      · refine RelV.stab (dom_weak (fun b hb => hDal b ?_) (fun _ => .inl rfl)) _ v hrename
        simpa only [avoid, hal', if_true] using hb
      · exact RelV.noro _ v hnr hrename
  cases e with
  | normal => exact ⟨F.dfs, (done hq).2⟩
  | ret => exact ⟨F.dfs, (done hq).2⟩
  | _ => exact hq.elim

theorem callable_of {P : Program} {f : FuncId} {fn : Func} {body : Code} (hf : P.funcs[f]? = some fn) (hname : (fn.name == "runtime.NumGoroutine") = false) (hbody : fn.body = some body) : Callable P f := ⟨fn, hf, hname, by rw [hbody]; rfl⟩
theorem meets_of {P : Program} {f : FuncId} {fn : Func} {body : Code} {C : Ctr} (hT : ∀ t d, T t = some d → TyOK P t d) (hf : P.funcs[f]? = some fn) (hname : (fn.name == "runtime.NumGoroutine") = false) (hbody : fn.body = some body) (hm : C.modes.length ≤ fn.ntmps)
    (h : ∀ args owns R, C.run args owns = some R → R.pre → ∃ st0, initSt fn.ntmps C.modes args owns = some st0 ∧ ∀ E : Env, E.P = P → E.nt = fn.ntmps → E.np = C.modes.length → W E body st0 (retQ T fn C R)) (hrel : C.rel = none := by rfl) : Meets P f C := by
  refine ⟨callable_of hf hname hbody, meets_core hT hf hname hbody hm ?_, fun rl hrl => by rw [hrel] at hrl; cases hrl⟩
  intro args owns pre S hrun hpre
  simp only [runR, Option.map_eq_some_iff, Prod.mk.injEq] at hrun
  obtain ⟨R, hr, rfl, rfl⟩ := hrun
  obtain ⟨st0, h1, h2⟩ := h args owns R hr hpre
  exact ⟨st0, h1, fun E e1 e2 e3 => W_mono (h2 E e1 e2 e3) (fun e s hq => ⟨R, rfl, hq⟩)⟩
theorem meetsR_of {P : Program} {f : FuncId} {fn : Func} {body : Code} {ms : List Md} {al : Bool} {rl : List AV → List Own → Option (Prop × (CRes → Prop))} (hT : ∀ t d, T t = some d → TyOK P t d) (hf : P.funcs[f]? = some fn) (hname : (fn.name == "runtime.NumGoroutine") = false) (hbody : fn.body = some body) (hm : ms.length ≤ fn.ntmps)
    (h : ∀ args owns pre S, rl args owns = some (pre, S) → pre → ∃ st0, initSt fn.ntmps ms args owns = some st0 ∧ ∀ E : Env, E.P = P → E.nt = fn.ntmps → E.np = ms.length → W E body st0 (retR T fn ⟨ms, al, fun _ _ => none, some rl⟩ S)) : Meets P f ⟨ms, al, fun _ _ => none, some rl⟩ := by
  refine ⟨callable_of hf hname hbody, ?_, fun rl' hrl => ?_⟩
  · intro w vs args owns ss A pre S hrun
    simp [runR] at hrun
  · simp only [Option.some.injEq] at hrl
    subst hrl
    exact meets_core hT hf hname hbody hm h
end
end Go.Proofs.Ytpiaeckkjdcifaa
