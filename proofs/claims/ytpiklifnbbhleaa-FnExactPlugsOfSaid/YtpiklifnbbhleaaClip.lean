/- Clipped slices of integers that are owned: made, read, written. No condition. -/
import Derived.Test.YtpiklifnbbhleaaSortS
import Derived.Test.YtpiklifnbbhleaaMatW
namespace Go.Proofs.Ytpiklifnbbhleaa
set_option linter.unusedVariables false
set_option linter.unusedSimpArgs false
open Go
open Go.RowKit Go.Lib Go.Sort

section
variable {E : Env} {st : AState} {fr : Nat → Option AV} {H : Nat → Option Own} {Kn : Nat → Prop} {σ : Sig} {a : Act} {w : World}
theorem Fits.rename (F : Fits E fr H Kn σ a w) {nx r : Nat} (hnx : ¬ Kn nx) {s : Value} {bs : List Nat} (hr : σ r = some (s, bs)) (o : Own) (s' : Value) (bs' : List Nat) (hsub : ∀ b ∈ bs', b ∈ bs)
    (ho : ∀ σ'' : Sig, OwnRel w (E.D (upd (upd σ r none) nx (some (s', bs')))) σ'' o s' bs') : Fits E fr (upd (upd H r none) nx (some o)) (fun q => Kn q ∨ q = nx) (upd (upd σ r none) nx (some (s', bs'))) a w := by
  have hKr : Kn r := Classical.byContradiction fun hn2 => by rw [F.gone r (F.known r hn2)] at hr; cases hr
  have hrx : r ≠ nx := fun h => hnx (h ▸ hKr)
  have sO : ∀ p, p ≠ nx → p ≠ r → upd (upd σ r none) nx (some (s', bs')) p = σ p := fun p h3 h4 => by rw [upd_ne _ _ h3, upd_ne _ _ h4]
  have sR : upd (upd σ r none) nx (some (s', bs')) r = none := by rw [upd_ne _ _ hrx, upd_same]
  refine F.world (fun _ => False) (fun _ h => h.elim) (fun k _ _ => rfl) (Nat.le_refl _) rfl rfl ⟨rfl, Nat.le_refl _⟩ ?_ (fun _ h => .inl h) ?_ ?_ ?_ ?_ ?_ ?_
  · intro p hp
    by_cases h3 : p = r
    · right; rw [h3]; exact sR
    · left; exact sO p (fun h => hnx (h ▸ hp)) h3
  · rintro c ⟨p, s2, bs2, h3, h4⟩
    left
    by_cases h5 : p = nx
    · rw [h5, upd_same] at h3; cases h3
      exact ⟨r, s, bs, hr, hsub c h4⟩
    · by_cases h6 : p = r
      · rw [h6, sR] at h3; cases h3
      · rw [sO p h5 h6] at h3; exact ⟨p, s2, bs2, h3, h4⟩
  · intro p o' ho'
    by_cases h5 : p = nx
    · right
      rw [h5, upd_same] at ho'; cases ho'
      exact ⟨_, _, by rw [h5, upd_same], fun σ'' _ => ho σ''⟩
    · left
      rw [upd_ne _ _ h5] at ho'
      by_cases h6 : p = r
      · rw [h6, upd_same] at ho'; cases ho'
      · rw [upd_ne _ _ h6] at ho'
        exact ⟨F.kn ho', ho', sO p h5 h6, fun _ _ _ _ _ h => h⟩
  · intro p hp
    by_cases h5 : p = nx
    · rw [h5, upd_same] at hp; cases hp
    · by_cases h6 : p = r
      · rw [h6]; exact sR
      · rw [upd_ne _ _ h5, upd_ne _ _ h6] at hp
        rw [sO p h5 h6]; exact F.gone p hp
  · intro p hp
    have h5 : p ≠ nx := fun h => hp (.inr h)
    have h6 : p ≠ r := fun h => hp (.inl (h ▸ hKr))
    rw [upd_ne _ _ h5, upd_ne _ _ h6]
    exact F.known p (fun h => hp (.inl h))
  · intro p s2 bs2 h3 c hc
    by_cases h5 : p = nx
    · rw [h5, upd_same] at h3; cases h3
      exact F.lt r s bs hr c (hsub c hc)
    · by_cases h6 : p = r
      · rw [h6, sR] at h3; cases h3
      · rw [sO p h5 h6] at h3
        exact F.lt p s2 bs2 h3 c hc
  · intro p p' s2 bs2 s3 bs3 h3 h4 hpp c hc hc2
    by_cases h5 : p = nx
    · rw [h5, upd_same] at h3; cases h3
      have h5' : p' ≠ nx := fun h => hpp (by rw [h5, h])
      by_cases h6 : p' = r
      · rw [h6, sR] at h4; cases h4
      · rw [sO p' h5' h6] at h4
        exact F.disj r p' s bs s3 bs3 hr h4 (Ne.symm h6) c (hsub c hc) hc2
    · by_cases h6 : p = r
      · rw [h6, sR] at h3; cases h3
      · rw [sO p h5 h6] at h3
        by_cases h8 : p' = nx
        · rw [h8, upd_same] at h4; cases h4
          exact F.disj p r s2 bs2 s bs h3 hr h6 c hc (hsub c hc2)
        · by_cases h9 : p' = r
          · rw [h9, sR] at h4; cases h4
          · rw [sO p' h8 h9] at h4
            exact F.disj p p' s2 bs2 s3 bs3 h3 h4 hpp c hc hc2

theorem hol_nilcl {d : Nat} (e : TypeId) (hi : look st.fr d = some .nils) : HOL E [] st ⟨(d, .sl st.nx) :: st.fr, (st.nx, some (.cl e [])) :: st.H, st.nx + 1⟩ := by
  intro a w F ops Q' rest hK
  obtain ⟨σ, F⟩ := F
  have hv : a.tmps.getD d undef = .slice none 0 0 := F.frame d _ hi σ (fun _ _ => rfl)
  have F1 := F.fresh (fun _ _ => rfl) (Nat.le_refl _) rfl rfl ⟨rfl, Nat.le_refl _⟩ st.nx (fun h => Nat.lt_irrefl _ h) (.cl e []) (.slice none 0 0) [] (by simp) (fun σ'' => ⟨rfl, .inl ⟨rfl, rfl⟩⟩)
  have F2 := F1.more d (.sl st.nx) (fun σ'' h'' s2 bs2 h2 => by
    rw [h'' st.nx (.inr rfl), upd_same] at h2; cases h2; exact hv)
  have e3 : (fun p => p < st.nx ∨ p = st.nx) = (fun p => p < st.nx + 1) := by funext p; apply propext; omega
  rw [e3] at F2
  refine hK a w ⟨upd σ st.nx (some (.slice none 0 0, [])), ?_⟩
  show Fits E (look ((d, AV.sl st.nx) :: st.fr)) (applyUps ((st.nx, some (Own.cl e [])) :: st.H) noH) _ _ _ w
  rw [look_cons_upd, ups_cons]
  exact F2

theorem hol_lencl {o : Oper} {c : Call} {t e0 : TypeId} {i d r : Nat} {e : TypeId} {xs : List Int} (ht : E.P.underlying t = some (.slice e0)) (hg : o.guard = none) (ho : o.op = .call c) (hc : c.callee = .builtin .len) (ha : c.args.toList = [.tmp i]) (hat : c.argTypes.toList = [t]) (hd : o.dst = some d) (hdn : d < E.nt)
    (hi : look st.fr i = some (.sl r)) (hH : applyUps st.H noH r = some (.cl e xs)) : HOL E [o] st ⟨(d, .int xs.length) :: st.fr, st.H, st.nx⟩ := by
  have h := HOL.good (E := E) (st := st) (o := o) (eff := ⟨.int xs.length, [], 0, True⟩) hg (by rw [hd]; simp [dstOK, hdn]) (fun a w σ F => by
    obtain ⟨s, bs, hs1, h2⟩ := F.heap r _ hH
    obtain ⟨_, h3⟩ := h2 σ (fun _ _ => rfl)
    have hv : a.eval (.tmp i) = s := F.frame i _ hi σ (fun _ _ => rfl) s bs hs1
    rcases h3 with ⟨h4, h5⟩ | ⟨g, cap, cur, h4, _⟩
    · rw [h5]
      exact good_len F ht ho hc ha hat (hv.trans h4)
    · exact good_len F ht ho hc ha hat (hv.trans h4))
  rw [hd] at h
  exact h

/-- A cell of a clipped slice is written. -/
theorem hol_putcl {o1 o2 : Oper} {t1 t2 e1 : TypeId} {ie : TypeInfo} {dT2 : TD} {i il iv d1 r : Nat} {n v : Int} {e : TypeId} {xs ys : List Int}
    (hu : E.P.underlying t1 = some (.slice e1)) (hie : E.P.info? e1 = some ie) (hsz : ie.size = 1) (hT2 : TyOK E.P t2 dT2) (hz : dT2.size = 1)
    (hg1 : o1.guard = none) (ho1 : o1.op = .indexAddr t1 (.tmp i) (.tmp il)) (hd1 : o1.dst = some d1)
    (hg2 : o2.guard = none) (ho2 : o2.op = .store t2 (.tmp d1) (.tmp iv)) (hd2 : o2.dst = none) (hn1 : d1 < E.nt) (h1v : iv ≠ d1)
    (hi : look st.fr i = some (.sl r)) (hil : look st.fr il = some (.int n)) (hiv : look st.fr iv = some (.int v))
    (hH : applyUps st.H noH r = some (.cl e xs)) (h0 : 0 ≤ n) (h1 : n < xs.length) (hys : xs.set n.toNat v = ys) :
    HOL E [o1, o2] st ⟨(d1, .junk) :: st.fr, (r, some (.cl e ys)) :: st.H, st.nx⟩ := by
  intro a w F ops Q' rest hK
  obtain ⟨σ, F⟩ := F
  obtain ⟨s, bs, hr, hown⟩ := F.heap r _ hH
  obtain ⟨hbs, h3⟩ := hown σ (fun _ _ => rfl)
  rcases h3 with ⟨_, h5⟩ | ⟨b, cap, cur, hs, hg, hn, hm, hc, htk⟩
  · subst h5
    have h1 : n < (0 : Int) := h1
    omega
  have hpg : ∀ (q d : Nat) (v : Value) (a : Act), q ≠ d → (a.put (some d) v).tmps.getD q undef = a.tmps.getD q undef := by
    intro q d v a hq
    simp only [Act.put]
    rw [Array.getD_eq_getD_getElem?, Array.getD_eq_getD_getElem?, Array.getElem?_setIfInBounds, if_neg (fun h => hq h.symm)]
  have hpg1 : ∀ (d : Nat) (v : Value) (a : Act), d < a.tmps.size → (a.put (some d) v).tmps.getD d undef = v := by
    intro d v a hq
    simp only [Act.put]
    rw [Array.getD_eq_getD_getElem?, Array.getElem?_setIfInBounds, if_pos rfl, if_pos hq]; rfl
  have e1' : a.eval (.tmp i) = .slice (some ⟨b, 0, none⟩) xs.length cap := (F.frame i _ hi σ (fun _ _ => rfl) s bs hr).trans hs
  have e2' : a.eval (.tmp il) = .int .i64 n := F.frame il _ hil σ (fun _ _ => rfl)
  have e3' : a.tmps.getD iv undef = .int .i64 v := F.frame iv _ hiv σ (fun _ _ => rfl)
  show wpList E.P ops Q' (o1 :: (o2 :: rest)) a w
  refine wpList_plain hg1 fun K1 hK1 => ?_
  have hr1 : (execOp a.eval o1).run E.P w = .ok (.value (.pointer (some ⟨b, n.toNat, none⟩))) w := by
    have := run_indexAt_slice hu hie w b 0 xs.length cap .i64 n h0 h1
    rw [hsz, Nat.mul_one, Nat.zero_add] at this
    simp only [execOp, ho1, e1', e2']
    exact run_ok_value this
  unfold Oper.wp
  rw [hr1]
  refine hK1 _ _ ?_
  rw [hd1]
  have F1 := F.put d1 hn1 .junk (.pointer (some ⟨b, n.toNat, none⟩)) (fun _ _ => trivial)
  have hv1 := hpg1 d1 (.pointer (some ⟨b, n.toNat, none⟩)) a (by rw [F.tsz]; exact hn1)
  have hk1 := hpg iv d1 (.pointer (some ⟨b, n.toNat, none⟩)) a h1v
  generalize a.put (some d1) (.pointer (some ⟨b, n.toNat, none⟩)) = a1 at *
  refine wpList_plain hg2 fun K2 hK2 => ?_
  have h5 : a1.eval (.tmp d1) = .pointer (some ⟨b, n.toNat, none⟩) := hv1
  have h6 : a1.eval (.tmp iv) = .int .i64 v := by
    show a1.tmps.getD iv undef = _
    rw [hk1, e3']
  have hst := run_store_gen (w := w) (v := .int .i64 v) (hT2.sizeOf w) [.int .i64 v] rfl (by simp [hz]) (by simp [Value.oneCell']) b n.toNat cur e hg (by simp; omega)
  have hex : (execOp a1.eval o2).run E.P w = .ok .skip (w.setRow b (over cur.toList n.toNat [.int .i64 v]).toArray) := by
    simp only [execOp, ho2, Instr.storeAt, h5, h6, Instr.sureAddr]
    simp [hst]
  unfold Oper.wp
  rw [hex]
  suffices h : K2 (a1.put o2.dst undef) (w.setRow b (over cur.toList n.toNat [.int .i64 v]).toArray) from h
  rw [hd2]
  have hb : b ∈ bs := by rw [hbs, hs]; simp [Value.blk]
  have hov : over cur.toList n.toNat [Value.int .i64 v] = cur.toList.set n.toNat (.int .i64 v) := over_one _ _ _ (by simp; omega)
  have F2 := F1.write r s bs hr (w' := w.setRow b (over cur.toList n.toNat [.int .i64 v]).toArray) (fun k hk hkb => setRow_old w b k _ (fun h => hkb (h ▸ hb))) (by simp) rfl rfl ⟨rfl, Nat.le_refl _⟩ (.cl e ys) (fun σ'' _ => by
    refine ⟨hbs, .inr ⟨b, cap, (over cur.toList n.toNat [.int .i64 v]).toArray, ?_, ?_, ?_, hm, ?_, ?_⟩⟩
    · rw [hs, ← hys, List.length_set]
    · exact setRow_heap w b cur _ e _ hg
    · rw [← hys, List.length_set]; exact hn
    · rw [hov]; simpa using hc
    · rw [hov, ← hys, List.length_set, List.toList_toArray, List.take_set, htk, List.map_set])
  refine hK2 _ _ (hK _ _ ⟨σ, ?_⟩)
  show Fits E (look ((d1, AV.junk) :: st.fr)) (applyUps ((r, some (Own.cl e ys)) :: st.H) noH) _ σ _ _
  rw [look_cons_upd, ups_cons]
  exact F2
end

/-- slices.Compact and slices.Clip: what was owned is owned, clipped. -/
theorem hol_clip {E : Env} (hP : E.P = Try.prog) {st : AState} {o1 o2 : Oper} {k1 k2 : Call} {i d1 d2 r : Nat} {e : TypeId} {xs : List Int}
    (hg1 : o1.guard = none) (ho1 : o1.op = .call k1) (hc1 : k1.callee = .value (.func 27)) (ha1 : k1.args.toList = [.tmp i]) (hd1 : o1.dst = some d1)
    (hg2 : o2.guard = none) (ho2 : o2.op = .call k2) (hc2 : k2.callee = .value (.func 26)) (ha2 : k2.args.toList = [.tmp d1]) (hd2 : o2.dst = some d2)
    (hn1 : d1 < E.nt) (hn2 : d2 < E.nt) (hf1 : look st.fr d1 = none)
    (hi : look st.fr i = some (.sl r)) (hH : applyUps st.H noH r = some (.sl e .i64 xs)) : HOL E [o1, o2] st ⟨(d2, .sl st.nx) :: st.fr, (st.nx, some (.cl e (compact xs))) :: (r, none) :: st.H, st.nx + 1⟩ := by
  intro a w F ops Q' rest hK
  obtain ⟨σ, F⟩ := F
  obtain ⟨s, bs, hr, hown⟩ := F.heap r _ hH
  have hv1 : a.tmps.getD i undef = s := F.frame i _ hi σ (fun _ _ => rfl) s bs hr
  have hargs : k1.args.toList.map a.eval = [s] := by
    rw [ha1]; simp only [List.map_cons, List.map_nil, Act.eval]; rw [hv1]
  obtain ⟨hrow, hbs⟩ := hown σ (fun _ _ => rfl)
  have hcl : (compact xs).length ≤ xs.length := compact_le xs
  -- the first call
  have hcall : ∃ ad cap, s = .slice ad xs.length cap ∧ (compact xs).length ≤ cap ∧ cap ≤ maxLen ∧ Calls Try.prog 27 #[s] w fun e' w' => e' = .returned (.slice ad (compact xs).length cap) ∧ ∃ ys, Moved w w' (fun k => k ∈ bs) ∧ (∀ σ'' : Sig, (∀ q, q < st.nx → σ'' q = σ q) → OwnRel w' (E.D σ) σ'' (.sl e .i64 ys) s bs) ∧
      ∀ (D : Nat → Prop) (σ'' : Sig), OwnRel w' D σ'' (.cl e (compact xs)) (.slice ad (compact xs).length (compact xs).length) bs := by
    by_cases hx : xs = []
    · subst hx
      have hc0 : compact ([] : List Int) = [] := List.eq_nil_of_length_eq_zero (by have := compact_le ([] : List Int); simpa using this)
      rcases hrow.2 with ⟨h1, _⟩ | ⟨b, cp, cur, h1, _, hg, _, hmx, _⟩
      · subst h1
        refine ⟨none, 0, rfl, by rw [hc0]; exact Nat.zero_le _, Nat.zero_le _, Calls.mono (slices_Compact_int_empty none 0 w) ?_⟩
        rintro e' w' ⟨rfl, rfl⟩
        exact ⟨by rw [hc0]; rfl, [], ⟨fun _ _ _ => rfl, Nat.le_refl _, rfl, rfl, rfl, Nat.le_refl _⟩, hown, fun D σ'' => ⟨hbs, .inl ⟨by rw [hc0]; rfl, hc0⟩⟩⟩
      · subst h1
        refine ⟨some ⟨b, 0, none⟩, cp, rfl, by rw [hc0]; exact Nat.zero_le _, hmx, Calls.mono (slices_Compact_int_empty (some ⟨b, 0, none⟩) cp w) ?_⟩
        rintro e' w' ⟨rfl, rfl⟩
        exact ⟨by rw [hc0]; rfl, [], ⟨fun _ _ _ => rfl, Nat.le_refl _, rfl, rfl, rfl, Nat.le_refl _⟩, hown, fun D σ'' => ⟨hbs, .inr ⟨b, 0, cur, by rw [hc0]; rfl, hg, by rw [hc0]; exact Nat.le_refl _, Nat.zero_le _, Nat.zero_le _, by rw [hc0]; rfl⟩⟩⟩
    · have hpos : 0 < xs.length := List.length_pos_iff.2 hx
      rcases hrow.2 with ⟨_, h2⟩ | ⟨b, cp, cur, rfl, _, hgb, hcp, hmax, hsz, htk⟩
      · omega
      simp only [FT.size, Nat.mul_one] at htk hsz
      rw [vals_i64'] at htk
      have hmx := hmax
      simp only [maxLen] at hmx
      have hcp' : xs.length ≤ cp := hcp
      refine ⟨some ⟨b, 0, none⟩, cp, rfl, by omega, hmax, Calls.mono (slices_Compact_int b 0 cp xs w (holds_row hgb htk) (by omega) hcp') ?_⟩
      rintro e' w' ⟨rfl, q, rfl⟩
      have hbs' : bs = [b] := by rw [hbs]; rfl
      have hyl : (compact xs ++ List.replicate (xs.length - (compact xs).length) 0).length = xs.length := by rw [List.length_append, List.length_replicate]; omega
      have hp := put_own hgb hsz hmax (ys := compact xs ++ List.replicate (xs.length - (compact xs).length) 0) (by omega) q #[] (n := xs.length) (by omega)
      have hp2 := put_own hgb hsz hmax (ys := compact xs ++ List.replicate (xs.length - (compact xs).length) 0) (by omega) q #[] (n := (compact xs).length) (by omega)
      rw [grow_empty] at hp hp2
      rw [List.take_of_length_le (by omega)] at hp
      rw [List.take_left'] at hp2
      · refine ⟨rfl, compact xs ++ List.replicate (xs.length - (compact xs).length) 0, ?_, ?_, fun D σ'' => ?_⟩
        · rw [hbs']; exact (hp (E.D σ) σ).1
        · intro σ'' _; rw [hbs']; exact (hp (E.D σ) σ'').2
        · obtain ⟨⟨_, h3⟩, _⟩ := (hp2 (E.D σ) σ).2
          rcases h3 with ⟨h4, _⟩ | ⟨b2, cp2, cur2, h4, _, hg2', hn2, hm2, hs2, ht2⟩
          · cases h4
          · simp only [Value.slice.injEq, Option.some.injEq, Addr.mk.injEq, and_true] at h4
            obtain ⟨rfl, _, rfl⟩ := h4
            simp only [FT.size, Nat.mul_one] at ht2 hs2
            rw [vals_i64'] at ht2
            exact ⟨hbs, .inr ⟨b, (compact xs).length, cur2, rfl, hg2', Nat.le_refl _, Nat.le_trans hn2 hm2, by rw [hs2]; exact hn2, ht2⟩⟩
      · rfl
  obtain ⟨ad, cap, hs, hcc, hmx, hcalls⟩ := hcall
  show wpList E.P ops Q' (o1 :: (o2 :: rest)) a w
  refine wpList_plain hg1 fun K1 hK1 => ?_
  unfold Oper.wp
  rw [exec_call (caps := []) ho1 hc1 rfl (hP ▸ callable_compact), List.append_nil, hargs, hP]
  refine Calls.mono hcalls ?_
  rintro e' w1 ⟨rfl, ys, hm, hown1, hcells⟩
  rw [hP] at hK1
  refine hK1 _ _ ?_
  have F1 := F.write r s bs hr (fun k hk hkb => hm.block k hk hkb) hm.size hm.os hm.tape ⟨hm.output, hm.drawn⟩ (.sl e .i64 ys) (fun σ'' h'' => hown1 σ'' h'')
  have F2 := F1.rename (nx := st.nx) (fun h => Nat.lt_irrefl _ h) hr (.cl e (compact xs)) (.slice ad (compact xs).length (compact xs).length) bs (fun _ h => h) (fun σ'' => hcells _ σ'')
  have F3 := F2.put d1 hn1 .junk (.slice ad (compact xs).length cap) (fun _ _ => trivial)
  rw [hd1]
  have hpg1 : ∀ (d : Nat) (v : Value) (a : Act), d < a.tmps.size → (a.put (some d) v).tmps.getD d undef = v := by
    intro d v a hq
    simp only [Act.put]
    rw [Array.getD_eq_getD_getElem?, Array.getElem?_setIfInBounds, if_pos rfl, if_pos hq]; rfl
  rw [← hP]
  refine wpList_plain hg2 fun K2 hK2 => ?_
  have hargs2 : k2.args.toList.map ((a.put (some d1) (.slice ad (compact xs).length cap)).eval) = [.slice ad (compact xs).length cap] := by
    rw [ha2]; simp only [List.map_cons, List.map_nil, Act.eval]
    rw [hpg1 d1 _ _ (by rw [F.tsz]; exact hn1)]
  unfold Oper.wp
  rw [exec_call (caps := []) ho2 hc2 rfl (hP ▸ callable_clip), List.append_nil, hargs2]
  have hcl2 := clip_calls ad (compact xs).length cap w1 hcc hmx
  rw [← hP] at hcl2
  refine Calls.mono hcl2 ?_
  rintro e' w2 ⟨rfl, rfl⟩
  have F4 := F3.put d2 hn2 (.sl st.nx) (.slice ad (compact xs).length (compact xs).length) (fun σ'' h'' s2 bs2 h2 => by
    rw [h'' st.nx (.inr rfl), upd_same] at h2; cases h2; rfl)
  refine hK2 _ _ (hK _ _ ⟨upd (upd σ r none) st.nx (some (.slice ad (compact xs).length (compact xs).length, bs)), ?_⟩)
  rw [hd2]
  have e3 : (fun p => p < st.nx ∨ p = st.nx) = (fun p => p < st.nx + 1) := by funext p; apply propext; omega
  rw [e3] at F4
  have e2 : upd (upd (upd (applyUps st.H noH) r (some (Own.sl e .i64 ys))) r none) st.nx (some (.cl e (compact xs))) = applyUps ((st.nx, some (Own.cl e (compact xs))) :: (r, none) :: st.H) noH := by
    rw [ups_cons, ups_cons]
    congr 1
    funext q
    by_cases hq : q = r
    · rw [hq, upd_same, upd_same]
    · rw [upd_ne _ _ hq, upd_ne _ _ hq, upd_ne _ _ hq]
  rw [e2] at F4
  show Fits E (look ((d2, AV.sl st.nx) :: st.fr)) (applyUps ((st.nx, some (Own.cl e (compact xs))) :: (r, none) :: st.H) noH) _ _ _ w2
  rw [look_cons_upd]
  refine F4.less (fun q x hq => ?_)
  by_cases h2 : q = d2
  · rw [h2, upd_same] at hq ⊢; exact hq
  · rw [upd_ne _ _ h2] at hq ⊢
    rw [upd_ne _ _ (fun h => by rw [h, hf1] at hq; cases hq)]
    exact hq
end Go.Proofs.Ytpiklifnbbhleaa
