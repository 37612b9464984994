/- Rows that own their rows: a row is stored, a row is marked. No condition. -/
import Derived.Test.YtpiklifnbbhleaaMat
namespace Go.Proofs.Ytpiklifnbbhleaa
set_option linter.unusedVariables false
set_option linter.unusedSimpArgs false
open Go

section
variable {E : Env} {st : AState}
theorem ups_cons (k : Nat) (x : Option Own) (l : List (Nat × Option Own)) (H : Nat → Option Own) : applyUps ((k, x) :: l) H = upd (applyUps l H) k x := by
  rw [show ((k, x) :: l) = [(k, x)] ++ l from rfl, applyUps_append, ups1]
theorem Fits.more {fr : Nat → Option AV} {H : Nat → Option Own} {Kn : Nat → Prop} {σ : Sig} {a : Act} {w : World} (F : Fits E fr H Kn σ a w) (t : Nat) (x : AV) (hx : ∀ σ' : Sig, (∀ r, Kn r → σ' r = σ r) → RelV w (E.D σ) σ' x (a.tmps.getD t undef)) : Fits E (upd fr t (some x)) H Kn σ a w := by
  refine { F with frame := fun t' y hy σ' hσ' => ?_ }
  by_cases ht : t' = t
  · subst ht; rw [upd_same] at hy; cases hy; exact hx σ' hσ'
  · rw [upd_ne _ _ ht] at hy; exact F.frame t' y hy σ' hσ'

theorem hol_makem {o : Oper} {t e : TypeId} {d : TD} (e' : TypeId) {l d1 : Nat} {n : Int} (hT : TyOK E.P t d) (hk : d.kd = .slr e) (hg : o.guard = none) (ho : o.op = .makeSlice t (.tmp l) (.tmp l)) (hd : o.dst = some d1) (hdn : d1 < E.nt) (hl : look st.fr l = some (.int n)) (h0 : 0 ≤ n) (h1 : n ≤ 1099511627776) :
    HOL E [o] st ⟨(d1, .sl st.nx) :: st.fr, (st.nx, some (.mat e e' (List.replicate n.toNat []))) :: st.H, st.nx + 1⟩ := by
  have h := HOL.good (E := E) (st := st) (o := o) (eff := ⟨.sl st.nx, [(st.nx, some (.mat e e' (List.replicate n.toNat [])))], 1, True⟩) hg (by rw [hd]; simp [dstOK, hdn]) (fun a w σ F => good_makem F (fun h => Nat.lt_irrefl _ h) e' hT hk ho (F.frame l _ hl σ fun _ _ => rfl) (F.frame l _ hl σ fun _ _ => rfl) h0 h1)
  rw [hd] at h
  exact h
theorem hol_idxm {o : Oper} {t e1 : TypeId} {d : TD} {i il d1 r : Nat} {n : Int} {e e' : TypeId} {xss : List (List Int)} (hT : TyOK E.P t d) (hk : d.kd = .slr e1) (hg : o.guard = none) (ho : o.op = .indexAddr t (.tmp i) (.tmp il)) (hd : o.dst = some d1) (hdn : d1 < E.nt) (hi : look st.fr i = some (.sl r)) (hil : look st.fr il = some (.int n)) (hH : applyUps st.H noH r = some (.mat e e' xss)) (h0 : 0 ≤ n) (h1 : n < xss.length) :
    HOL E [o] st ⟨(d1, .oe r 1 n 0) :: st.fr, st.H, st.nx⟩ := by
  have h := HOL.good (E := E) (st := st) (o := o) (eff := ⟨.oe r 1 n 0, [], 0, True⟩) hg (by rw [hd]; simp [dstOK, hdn]) (fun a w σ F => by
    obtain ⟨hu, ie, hi', _, hsz, _⟩ := hT.slicer hk
    obtain ⟨s, bs, hs1, h2⟩ := F.heap r _ hH
    obtain ⟨us, bss, hown, _⟩ := h2 σ (fun _ _ => rfl)
    exact good_idx_own F hu hi' ho (F.frame i _ hi) (F.frame il _ hil σ fun _ _ => rfl) hs1 hown hsz h0 h1)
  rw [hd] at h
  exact h
theorem hol_storem {o : Oper} {t : TypeId} {d : TD} {i iv is r q : Nat} {n : Int} {e e' : TypeId} {xss : List (List Int)} {ys : List Int} (hT : TyOK E.P t d) (hz : d.size = 1) (hg : o.guard = none) (ho : o.op = .store t (.tmp i) (.tmp iv)) (hd : o.dst = none)
    (hi : look st.fr i = some (.oe r 1 n 0)) (hiv : look st.fr iv = some (.sl q)) (his : look st.fr is = some (.sl r)) (hH : applyUps st.H noH r = some (.mat e e' xss)) (hH' : applyUps st.H noH q = some (.sl e' .i64 ys)) (hne : q ≠ r) :
    HOL E [o] st ⟨(is, .sl st.nx) :: st.fr, (st.nx, some (.mat e e' (xss.set n.toNat ys))) :: (r, none) :: (q, none) :: st.H, st.nx + 1⟩ := by
  refine HOL.one hg fun a w F K Q' hK => ?_
  obtain ⟨σ, F⟩ := F
  obtain ⟨w', σ', s, hrun, F', ⟨bs, hs⟩, ⟨bs', hs'⟩⟩ := store_mat F (nx := st.nx) (fun h => Nat.lt_irrefl _ h) hT ho (F.frame i _ hi) hH hne hH' (F.frame iv _ hiv) hz
  unfold Oper.wp
  rw [hrun]
  suffices h : K (a.put o.dst undef) w' from h
  rw [hd]
  refine hK _ _ ⟨σ', ?_⟩
  have hv : a.tmps.getD is undef = s := F.frame is _ his σ (fun _ _ => rfl) s bs hs
  have F2 := F'.more is (.sl st.nx) (fun σ'' h'' s2 bs2 h2 => by
    rw [h'' st.nx (.inr rfl), hs'] at h2; cases h2; exact hv)
  have e3 : (fun p => p < st.nx ∨ p = st.nx) = (fun p => p < st.nx + 1) := by funext p; apply propext; omega
  rw [e3] at F2
  show Fits E (look ((is, AV.sl st.nx) :: st.fr)) (applyUps ((st.nx, some (Own.mat e e' (xss.set n.toNat ys))) :: (r, none) :: (q, none) :: st.H) noH) _ σ' _ w'
  rw [look_cons_upd, ups_cons, ups_cons, ups_cons]
  exact F2

/-- A row is handed out, to be written. -/
theorem mark_m {fr : Nat → Option AV} {H : Nat → Option Own} {Kn : Nat → Prop} {σ : Sig} {a : Act} {w : World} (F : Fits E fr H Kn σ a w) {f : FuncId} {C : Ctr} (hM : Meets E.P f C) (hm : C.modes = [.m, .v .p]) (hal : C.al = false) {r n : Nat} {e e' : TypeId} {xss : List (List Int)} {k m : Int} {ys : List Int} {pre : Prop}
    (hrun : C.run [.int k] [.sl e' .i64 (xss.getD n [])] = some ⟨pre, .int m, [], [.sl e' .i64 ys]⟩) (hpre : pre) (hn : n < xss.length) (hH : H r = some (.mat e e' xss)) :
    ∃ s bs b cap u, σ r = some (s, bs) ∧ s = .slice (some ⟨b, 0, none⟩) xss.length cap ∧ w.cell? ⟨b, n, none⟩ = some u ∧ Calls E.P f #[u, .int .i64 k] w fun e1 w' => e1 = .returned (.int .i64 m) ∧ Moved w w' (fun c => c ∈ bs) ∧ ∀ σ'' : Sig, OwnRel w' (E.D σ) σ'' (.mat e e' (xss.set n ys)) s bs := by
  obtain ⟨s, bs, hs1, h2⟩ := F.heap r _ hH
  obtain ⟨us, bss, hown, hbs, hbl, hnd, hrow⟩ := h2 σ (fun _ _ => rfl)
  have hul : us.length = xss.length := by have := hown.1; simpa using this
  rcases hown.2 with ⟨_, h3⟩ | ⟨b, cap, cur, h3, _, hg, _⟩
  · omega
  have hlt : n < us.length := by omega
  have hlb : n < bss.length := by omega
  have hcell : w.cell? ⟨b, n, none⟩ = some (us[n]'hlt) := by
    have h9 := hown
    rw [h3] at h9
    have := h9.cellAt n (by omega)
    rw [this]; simp [List.getElem?_eq_getElem hlt]
  have hu : us[n]? = some us[n] := List.getElem?_eq_getElem hlt
  have hx : xss[n]? = some (xss.getD n []) := by rw [List.getD_eq_getElem?_getD, List.getElem?_eq_getElem hn]; rfl
  have hb : bss[n]? = some bss[n] := List.getElem?_eq_getElem hlb
  obtain ⟨h4, h5⟩ := hrow n _ _ _ hu hx hb
  generalize us[n] = u at *
  generalize bss[n] = bq at *
  have hfl : ∀ c ∈ Value.blk u, c ∈ bss.flatten := fun c hc => List.mem_flatten.2 ⟨bq, List.mem_of_getElem? hb, h5 ▸ hc⟩
  have hsub : ∀ c ∈ Value.blk u, c ∈ bs := fun c hc => by rw [hbs]; exact List.mem_append_right _ (hfl c hc)
  have hcall := hM.2.1 w [u, .int .i64 k] [.int k] [.sl e' .i64 (xss.getD n [])] [(u, Value.blk u)] (fun _ => False) pre (fun R' => R' = ⟨pre, .int m, [], [.sl e' .i64 ys]⟩)
    (by simp only [runR, hrun, Option.map_some]) hpre rfl rfl (fun b h => h.elim) (fun _ b h => h) (by rw [hm]; exact ⟨rfl, rfl, trivial⟩)
    ⟨⟨by
      show w.ownsRow 0 e' 1 u (xss.getD n []).length ((xss.getD n []).flatMap (FT.vals .i64))
      rw [show (xss.getD n []).flatMap (FT.vals .i64) = (xss.getD n []).map (Value.int .i64) from (List.map_eq_flatMap (f := Value.int .i64) (l := xss.getD n [])).symm]
      exact h4, rfl⟩, trivial⟩
    (fun c hc => by
      obtain ⟨t, ht, hc2⟩ := hc
      rw [List.mem_singleton] at ht; subst ht
      exact (F.lt r s bs hs1 c (hsub c hc2)).1)
    (fun i j s t h1 h2 hij => by
      have h8 := (List.getElem?_eq_some_iff.1 h1).1
      have h9 := (List.getElem?_eq_some_iff.1 h2).1
      simp only [List.length_singleton] at h8 h9
      omega)
  refine ⟨s, bs, b, cap, u, hs1, h3, hcell, Calls.mono hcall ?_⟩
  rintro e1 w' ⟨R, rfl, v, ns, rfl, hmv, hmuts, _, _, _, hres⟩
  have hres : v = .int .i64 m := hres
  have hnin : ∀ c, c ∉ Value.blk u → ¬ inB [(u, Value.blk u)] c := by
    rintro c hc ⟨t, ht, hc2⟩
    rw [List.mem_singleton] at ht; subst ht
    exact hc hc2
  have hkeep : ∀ c ∈ bs, c ∉ Value.blk u → w'.heap[c]? = w.heap[c]? := fun c hc hcu => hmv.block c (F.lt r s bs hs1 c hc).1 (hnin c hcu)
  rw [List.nodup_append] at hnd
  refine ⟨by rw [hres], ⟨fun c hc hcb => hmv.block c hc (hnin c (fun h => hcb (hsub c h))), hmv.size, hmv.os, hmv.tape, hmv.output, hmv.drawn⟩, fun σ'' => ?_⟩
  refine ⟨us, bss, ?_, hbs, by rw [List.length_set]; exact hbl, by rw [List.nodup_append]; exact hnd, ?_⟩
  · rw [List.length_set]
    exact ownsRow_keep hown (fun c hc => hkeep c (by rw [hbs]; exact List.mem_append_left _ hc) (fun h => hnd.2.2 c hc c (hfl c h) rfl))
  · intro j uj xs bj huj hxs hbj
    rw [List.getElem?_set] at hxs
    by_cases hj : n = j
    · subst hj
      rw [if_pos rfl, if_pos hn] at hxs
      rw [hu] at huj; rw [hb] at hbj
      cases huj; cases hxs; cases hbj
      refine ⟨?_, h5⟩
      have h6 := hmuts.1.1
      have h7 : w'.ownsRow 0 e' 1 u ys.length (ys.flatMap (FT.vals .i64)) := h6
      rw [show ys.flatMap (FT.vals .i64) = ys.map (Value.int .i64) from (List.map_eq_flatMap (f := Value.int .i64) (l := ys)).symm] at h7
      exact h7
    · rw [if_neg hj] at hxs
      obtain ⟨h6, h7⟩ := hrow j uj xs bj huj hxs hbj
      refine ⟨ownsRow_keep h6 (fun c hc => hkeep c ?_ (fun h => ?_)), h7⟩
      · rw [hbs]; exact List.mem_append_right _ (List.mem_flatten.2 ⟨bj, List.mem_of_getElem? hbj, h7 ▸ hc⟩)
      · exact nod_disj hnd.2.1 hb hbj hj c (h5 ▸ h) (h7 ▸ hc)

theorem hol_mark {o1 o2 o3 o4 : Oper} {c : Call} {t1 t2 e1 : TypeId} {dT1 dT2 : TD} {i il ik d1 d2 d3 d4 r : Nat} {f : FuncId} {C : Ctr} {n k m : Int} {e e' : TypeId} {xss : List (List Int)} {ys : List Int} {pre : Prop}
    (hT1 : TyOK E.P t1 dT1) (hk1 : dT1.kd = .slr e1) (hT2 : TyOK E.P t2 dT2) (hs2 : isStr dT2 = false)
    (hg1 : o1.guard = none) (ho1 : o1.op = .indexAddr t1 (.tmp i) (.tmp il)) (hd1 : o1.dst = some d1)
    (hg2 : o2.guard = none) (ho2 : o2.op = .load t2 (.tmp d1)) (hd2 : o2.dst = some d2)
    (hg3 : o3.guard = none) (ho3 : o3.op = .move (.tmp ik)) (hd3 : o3.dst = some d3)
    (hg4 : o4.guard = none) (ho4 : o4.op = .call c) (hc : c.callee = .value (.func f)) (ha : c.args.toList = [.tmp d2, .tmp d3]) (hd4 : o4.dst = some d4)
    (hn1 : d1 < E.nt) (hn2 : d2 < E.nt) (hn3 : d3 < E.nt) (hn4 : d4 < E.nt) (h1 : ik ≠ d1) (h2 : ik ≠ d2) (h23 : d2 ≠ d3)
    (hi : look st.fr i = some (.sl r)) (hil : look st.fr il = some (.int n)) (hik : look st.fr ik = some (.int k)) (hH : applyUps st.H noH r = some (.mat e e' xss))
    (hM : Meets E.P f C) (hm : C.modes = [.m, .v .p]) (hal : C.al = false) (hrun : C.run [.int k] [.sl e' .i64 (xss.getD n.toNat [])] = some ⟨pre, .int m, [], [.sl e' .i64 ys]⟩) (hpre : pre) (h0 : 0 ≤ n) (hn : n < xss.length) :
    HOL E [o1, o2, o3, o4] st ⟨(d4, .int m) :: (d3, .junk) :: (d2, .junk) :: (d1, .junk) :: st.fr, (r, some (.mat e e' (xss.set n.toNat ys))) :: st.H, st.nx⟩ := by
  intro a w F ops Q' rest hK
  obtain ⟨σ, F⟩ := F
  obtain ⟨s, bs, b, cap, u, hr, hs, hcell, hcalls⟩ := mark_m F hM hm hal hrun hpre (by omega : n.toNat < xss.length) hH
  have hpg : ∀ (q d : Nat) (v : Value) (a : Act), q ≠ d → (a.put (some d) v).tmps.getD q undef = a.tmps.getD q undef := by
    intro q d v a hq
    simp only [Act.put]
    rw [Array.getD_eq_getD_getElem?, Array.getD_eq_getD_getElem?, Array.getElem?_setIfInBounds, if_neg (fun h => hq h.symm)]
  have hpg1 : ∀ (d : Nat) (v : Value) (a : Act), d < a.tmps.size → (a.put (some d) v).tmps.getD d undef = v := by
    intro d v a hq
    simp only [Act.put]
    rw [Array.getD_eq_getD_getElem?, Array.getElem?_setIfInBounds, if_pos rfl, if_pos hq]; rfl
  have hsz : a.tmps.size = E.nt := F.tsz
  show wpList E.P ops Q' (o1 :: (o2 :: o3 :: o4 :: rest)) a w
  refine wpList_plain hg1 fun K1 hK1 => ?_
  have e1 : a.eval (.tmp i) = .slice (some ⟨b, 0, none⟩) xss.length cap := (F.frame i _ hi σ (fun _ _ => rfl) s bs hr).trans hs
  have e2 : a.eval (.tmp il) = .int .i64 n := F.frame il _ hil σ (fun _ _ => rfl)
  have e3 : a.tmps.getD ik undef = .int .i64 k := F.frame ik _ hik σ (fun _ _ => rfl)
  obtain ⟨hu, ie, hi', _, hsz1, _⟩ := hT1.slicer hk1
  have hr1 : (execOp a.eval o1).run E.P w = .ok (.value (.pointer (some ⟨b, n.toNat, none⟩))) w := by
    have := run_indexAt_slice hu hi' w b 0 xss.length cap .i64 n h0 hn
    rw [hsz1, Nat.mul_one, Nat.zero_add] at this
    simp only [execOp, ho1, e1, e2]
    exact run_ok_value this
  unfold Oper.wp
  rw [hr1]
  refine hK1 _ _ ?_
  rw [hd1]
  have F1 := F.put d1 hn1 .junk (.pointer (some ⟨b, n.toNat, none⟩)) (fun _ _ => trivial)
  have hv1 := hpg1 d1 (.pointer (some ⟨b, n.toNat, none⟩)) a (by rw [hsz]; exact hn1)
  have hk1' := hpg ik d1 (.pointer (some ⟨b, n.toNat, none⟩)) a h1
  generalize a.put (some d1) (.pointer (some ⟨b, n.toNat, none⟩)) = a1 at *
  refine wpList_plain hg2 fun K2 hK2 => ?_
  have hr2 : (execOp a1.eval o2).run E.P w = .ok (.value u) w := by
    have h5 : a1.eval (.tmp d1) = .pointer (some ⟨b, n.toNat, none⟩) := hv1
    have := run_loadVar_one hT2 hs2 w _ _ hcell
    simp only [execOp, ho2, h5, Instr.loadAt, Instr.sureAddr]
    simp only [Sem.run_bind, Sem.run_pure, Result.andThen_ok, this]
  unfold Oper.wp
  rw [hr2]
  refine hK2 _ _ ?_
  rw [hd2]
  have F2 := F1.put d2 hn2 .junk u (fun _ _ => trivial)
  have hv2 := hpg1 d2 u a1 (by rw [F1.tsz]; exact hn2)
  have hk2' := hpg ik d2 u a1 h2
  generalize a1.put (some d2) u = a2 at *
  refine wpList_plain hg3 fun K3 hK3 => ?_
  have hr3 : (execOp a2.eval o3).run E.P w = .ok (.value (.int .i64 k)) w := by
    have h5 : a2.eval (.tmp ik) = .int .i64 k := by
      show a2.tmps.getD ik undef = _
      rw [hk2', hk1', e3]
    simp [execOp, ho3, h5]
  unfold Oper.wp
  rw [hr3]
  refine hK3 _ _ ?_
  rw [hd3]
  have F3 := F2.put d3 hn3 .junk (.int .i64 k) (fun _ _ => trivial)
  have hv3 := hpg1 d3 (.int .i64 k) a2 (by rw [F2.tsz]; exact hn3)
  have hv23 := hpg d2 d3 (.int .i64 k) a2 h23
  generalize a2.put (some d3) (.int .i64 k) = a3 at *
  refine wpList_plain hg4 fun K4 hK4 => ?_
  have hargs : c.args.toList.map a3.eval = [u, .int .i64 k] := by
    rw [ha]; simp only [List.map_cons, List.map_nil, Act.eval]
    rw [hv3, hv23, hv2]
  unfold Oper.wp
  rw [exec_call (caps := []) ho4 hc rfl hM.1, List.append_nil, hargs]
  refine Calls.mono hcalls ?_
  rintro e1 w' ⟨rfl, hm', h5⟩
  have F4 := F3.write r s bs hr (fun k hk hkb => hm'.block k hk hkb) hm'.size hm'.os hm'.tape ⟨hm'.output, hm'.drawn⟩ _ (fun σ'' _ => h5 σ'')
  have F5 := F4.put d4 hn4 (.int m) (.int .i64 m) (fun _ _ => rfl)
  refine hK4 _ _ (hK _ _ ⟨σ, ?_⟩)
  rw [hd4]
  show Fits E (look ((d4, AV.int m) :: (d3, .junk) :: (d2, .junk) :: (d1, .junk) :: st.fr)) (applyUps ((r, some (Own.mat e e' (xss.set n.toNat ys))) :: st.H) noH) _ σ _ w'
  rw [look_cons_upd, look_cons_upd, look_cons_upd, look_cons_upd, ups_cons]
  exact F5
theorem hol_put {o1 o2 : Oper} {t1 t2 e1 : TypeId} {dT1 dT2 : TD} {i il iv is d1 r q : Nat} {n : Int} {e e' : TypeId} {xss zss : List (List Int)} {ys : List Int}
    (hT1 : TyOK E.P t1 dT1) (hk1 : dT1.kd = .slr e1) (hT2 : TyOK E.P t2 dT2) (hz : dT2.size = 1)
    (hg1 : o1.guard = none) (ho1 : o1.op = .indexAddr t1 (.tmp i) (.tmp il)) (hd1 : o1.dst = some d1)
    (hg2 : o2.guard = none) (ho2 : o2.op = .store t2 (.tmp d1) (.tmp iv)) (hd2 : o2.dst = none) (hn1 : d1 < E.nt)
    (hi : look st.fr i = some (.sl r)) (hil : look st.fr il = some (.int n)) (hiv : look ((d1, .oe r 1 n 0) :: st.fr) iv = some (.sl q)) (his : look ((d1, .oe r 1 n 0) :: st.fr) is = some (.sl r))
    (hH : applyUps st.H noH r = some (.mat e e' xss)) (hH' : applyUps st.H noH q = some (.sl e' .i64 ys)) (hne : q ≠ r) (h0 : 0 ≤ n) (h1 : n < xss.length) (hzs : xss.set n.toNat ys = zss) :
    HOL E [o1, o2] st ⟨(is, .sl st.nx) :: (d1, .oe r 1 n 0) :: st.fr, (st.nx, some (.mat e e' zss)) :: (r, none) :: (q, none) :: st.H, st.nx + 1⟩ := by
  subst hzs
  have hl : look ((d1, AV.oe r 1 n 0) :: st.fr) d1 = some (.oe r 1 n 0) := by rw [look_cons_upd, upd_same]
  exact HOL.app (hol_idxm hT1 hk1 hg1 ho1 hd1 hn1 hi hil hH h0 h1) (hol_storem (st := ⟨(d1, .oe r 1 n 0) :: st.fr, st.H, st.nx⟩) hT2 hz hg2 ho2 hd2 hl hiv his hH hH' hne)
theorem hol_mark_eq {o1 o2 o3 o4 : Oper} {c : Call} {t1 t2 e1 : TypeId} {dT1 dT2 : TD} {i il ik d1 d2 d3 d4 r : Nat} {f : FuncId} {C : Ctr} {n k m m' : Int} {e e' : TypeId} {xss zss : List (List Int)} {ys : List Int} {pre : Prop}
    (hT1 : TyOK E.P t1 dT1) (hk1 : dT1.kd = .slr e1) (hT2 : TyOK E.P t2 dT2) (hs2 : isStr dT2 = false)
    (hg1 : o1.guard = none) (ho1 : o1.op = .indexAddr t1 (.tmp i) (.tmp il)) (hd1 : o1.dst = some d1)
    (hg2 : o2.guard = none) (ho2 : o2.op = .load t2 (.tmp d1)) (hd2 : o2.dst = some d2)
    (hg3 : o3.guard = none) (ho3 : o3.op = .move (.tmp ik)) (hd3 : o3.dst = some d3)
    (hg4 : o4.guard = none) (ho4 : o4.op = .call c) (hc : c.callee = .value (.func f)) (ha : c.args.toList = [.tmp d2, .tmp d3]) (hd4 : o4.dst = some d4)
    (hn1 : d1 < E.nt) (hn2 : d2 < E.nt) (hn3 : d3 < E.nt) (hn4 : d4 < E.nt) (h1 : ik ≠ d1) (h2 : ik ≠ d2) (h23 : d2 ≠ d3)
    (hi : look st.fr i = some (.sl r)) (hil : look st.fr il = some (.int n)) (hik : look st.fr ik = some (.int k)) (hH : applyUps st.H noH r = some (.mat e e' xss))
    (hM : Meets E.P f C) (hm : C.modes = [.m, .v .p]) (hal : C.al = false) (hrun : C.run [.int k] [.sl e' .i64 (xss.getD n.toNat [])] = some ⟨pre, .int m, [], [.sl e' .i64 ys]⟩) (hpre : pre) (h0 : 0 ≤ n) (hn : n < xss.length) (hm' : m = m') (hzs : xss.set n.toNat ys = zss) :
    HOL E [o1, o2, o3, o4] st ⟨(d4, .int m') :: (d3, .junk) :: (d2, .junk) :: (d1, .junk) :: st.fr, (r, some (.mat e e' zss)) :: st.H, st.nx⟩ := by
  subst hzs; subst hm'
  exact hol_mark hT1 hk1 hT2 hs2 hg1 ho1 hd1 hg2 ho2 hd2 hg3 ho3 hd3 hg4 ho4 hc ha hd4 hn1 hn2 hn3 hn4 h1 h2 h23 hi hil hik hH hM hm hal hrun hpre h0 hn
/-- What owned its rows is from now on only read. -/
theorem hol_freeze {d r : Nat} {e e' : TypeId} {xss : List (List Int)} (hi : look st.fr d = some (.sl r)) (hH : applyUps st.H noH r = some (.mat e e' xss)) : HOL E [] st ⟨(d, .rows xss) :: st.fr, (r, none) :: st.H, st.nx⟩ := by
  intro a w F ops Q' rest hK
  obtain ⟨σ, F⟩ := F
  obtain ⟨s, bs, hr, hown⟩ := F.heap r _ hH
  have hv : a.tmps.getD d undef = s := F.frame d _ hi σ (fun _ _ => rfl) s bs hr
  have F1 := F.drop r
  have F2 := F1.more d (.rows xss) (fun σ' _ => by
    show ROrows w (E.D (upd σ r none)) xss (a.tmps.getD d undef)
    rw [hv]
    exact snap_mat (hown σ (fun _ _ => rfl)) (F.dropD r s bs hr))
  refine hK a w ⟨upd σ r none, ?_⟩
  show Fits E (look ((d, AV.rows xss) :: st.fr)) (applyUps ((r, none) :: st.H) noH) _ _ _ w
  rw [look_cons_upd, ups_cons]
  exact F2
end
end Go.Proofs.Ytpiklifnbbhleaa
