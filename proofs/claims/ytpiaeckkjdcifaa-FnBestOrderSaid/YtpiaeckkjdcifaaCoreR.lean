/- The core of the method, part R: operations that are shown by a proof of their own, in the midst of a region. No condition. -/
import Derived.Test.YtpiaeckkjdcifaaCoreQ
namespace Go.Proofs.Ytpiaeckkjdcifaa
set_option linter.unusedVariables false
set_option linter.unusedSimpArgs false
open Go

section
variable {E : Env} {st : AState} {Q : Exit → AState → Prop} {T : TypeId → Option TD} {Γ : FuncId → Option Ctr}

theorem opsW_then (l2 : List Oper) (hT : ∀ t d, T t = some d → TyOK E.P t d) (hG : ∀ f C, Γ f = some C → Meets E.P f C) {mb : List Nat} {ops : List Oper} {K : AState → Prop} (Q' : Exit → Act → World → Prop) (hQ : ∀ s a w, K s → FitsS E s a w → wpList E.P ops.toArray Q' l2 a w) :
    ∀ (l : List Oper) (st : AState) (a : Act) (w : World), opsW T Γ mb E.nt ops K l st → FitsS E st a w → wpList E.P ops.toArray Q' (l ++ l2) a w
  | [], st, a, w, h, F => hQ st a w h F
  | o :: l, st, a, w, h, F => by
    show wpList E.P ops.toArray Q' (o :: (l ++ l2)) a w
    simp only [opsW] at h
    split at h
    · split at h
      · rename_i neg C hn
        obtain ⟨hd, hrest⟩ := h
        obtain ⟨σ, F⟩ := F
        refine wpList_step fun K' hK' => ?_
        obtain ⟨hg, b, hC, hgood⟩ := nil_sound (nx := st.nx) hT F hn
        have hw : Region.wanted o (yielded ops.toArray a.tmps) = true := by simp [Region.wanted, hg]
        rw [if_pos hw]
        have hdk : ∀ k, o.dst = some k → k < E.nt := fun k hk => by rw [hk] at hd; simpa [dstOK] using hd
        refine hgood.step K' Q' fun v w' σ' hF hx => hK' _ _ (opsW_then l2 hT hG Q' hQ l _ _ w' (hrest b hC) ⟨σ', ?_⟩)
        have F' := hF.putD o.dst hdk (.bool (nb neg b)) v hx
        have := app_fr st o.dst ⟨.bool (nb neg b), [], 0, True⟩
        rw [this]
        have F2 : Fits E (updD (look st.fr) o.dst (some (.bool (nb neg b)))) (applyUps st.H noH) (fun r => r < st.nx) σ' (a.put o.dst v) w' := by
          rw [← kn0 (fun r => r < st.nx) st.nx]; exact F'
        exact F2
      · split at h
        · rename_i q hq
          obtain ⟨hd, hpre, hrest⟩ := h
          obtain ⟨σ, F⟩ := F
          refine wpList_step fun K' hK' => ?_
          have hr := rel_sound (σ := σ) hG F hd hq hpre (fun i (h : st.nx + i < st.nx) => by omega) K' Q' (fun R hR => by
            obtain ⟨h1, h2⟩ := hrest R hR
            split at h2
            · rename_i e he
              refine ⟨h1, e, he, fun a' w' σ' F' => hK' a' w' (opsW_then l2 hT hG Q' hQ l _ a' w' h2 ⟨σ', ?_⟩)⟩
              rw [← app_fr] at F'
              have e1 : (fun r => r < st.nx ∨ (st.nx ≤ r ∧ r < st.nx + e.news)) = (fun r => r < (st.app o.dst e).nx) := by
                funext r; apply propext; simp only [AState.app]; omega
              have e2 : applyUps e.ups (applyUps st.H noH) = applyUps (st.app o.dst e).H noH := by simp only [AState.app]; rw [applyUps_append]
              rw [e2] at F'
              simpa only [e1] using F'
            · exact h2.elim)
          have hw : Region.wanted o (yielded ops.toArray a.tmps) = true := by simp [Region.wanted, hr.1]
          rw [if_pos hw]
          exact hr.2
        · exact h.elim
    · rename_i e he
      obtain ⟨hd, hvc, hrest⟩ := h
      obtain ⟨σ, F⟩ := F
      refine wpList_step fun K' hK' => ?_
      have hnx : ∀ i, i < e.news → ¬ (fun r => r < st.nx) (st.nx + i) := fun i _ h => by simp only [] at h; omega
      refine stepG_sound hT hG F hnx hd he hvc K' Q' (fun a' w' σ' F' => hK' a' w' (opsW_then l2 hT hG Q' hQ l _ a' w' hrest ⟨σ', ?_⟩))
      rw [← app_fr] at F'
      have e1 : (fun r => r < st.nx ∨ (st.nx ≤ r ∧ r < st.nx + e.news)) = (fun r => r < (st.app o.dst e).nx) := by
        funext r; apply propext; simp only [AState.app]; omega
      have e2 : applyUps e.ups (applyUps st.H noH) = applyUps (st.app o.dst e).H noH := by simp only [AState.app]; rw [applyUps_append]
      rw [e2] at F'
      simpa only [e1] using F'


/-- What a few operations do, told by a proof of their own. -/
def HOL (E : Env) (os : List Oper) (s1 s2 : AState) : Prop := ∀ (a : Act) (w : World), FitsS E s1 a w → ∀ (ops : Array Oper) (Q' : Exit → Act → World → Prop) (rest : List Oper), (∀ a' w', FitsS E s2 a' w' → wpList E.P ops Q' rest a' w') → wpList E.P ops Q' (os ++ rest) a w
theorem HOL.nil {s : AState} : HOL E [] s s := fun a w F ops Q' rest h => h a w F
theorem HOL.app {x y : List Oper} {s1 s2 s3 : AState} (h1 : HOL E x s1 s2) (h2 : HOL E y s2 s3) : HOL E (x ++ y) s1 s3 := fun a w F ops Q' rest h => by
  rw [List.append_assoc]
  exact h1 a w F ops Q' (y ++ rest) (fun a' w' F' => h2 a' w' F' ops Q' rest h)
theorem HOL.one {o : Oper} {s1 s2 : AState} (hg : o.guard = none) (h : ∀ (a : Act) (w : World), FitsS E s1 a w → ∀ (K : Act → World → Prop) (Q' : Exit → Act → World → Prop), (∀ a' w', FitsS E s2 a' w' → K a' w') → o.wp E.P a w K Q') : HOL E [o] s1 s2 := fun a w F ops Q' rest hr =>
  wpList_plain hg fun K hK => h a w F K Q' (fun a' w' F' => hK a' w' (hr a' w' F'))

/-- What is still to show in the midst of a region. -/
def Mid (E : Env) (T : TypeId → Option TD) (Γ : FuncId → Option Ctr) (i k : Nat) (mb2 : List Nat) (ops : List Oper) (K : AState → Prop) (s1 : AState) : Prop := ∃ s2, HOL E ((ops.drop i).take k) s1 s2 ∧ opsW T Γ mb2 E.nt ops K (ops.drop (i + k)) s2
/-- .. and behind it. -/
def Mid2 (T : TypeId → Option TD) (Γ : FuncId → Option Ctr) (mb2 : List Nat) (nt : Nat) (ops l : List Oper) (K : AState → Prop) (s2 : AState) : Prop := opsW T Γ mb2 nt ops K l s2
theorem Mid.intro {i k : Nat} {mb2 : List Nat} {ops : List Oper} {K : AState → Prop} {s1 s2 : AState} (h1 : HOL E ((ops.drop i).take k) s1 s2) (h2 : Mid2 T Γ mb2 E.nt ops (ops.drop (i + k)) K s2) : Mid E T Γ i k mb2 ops K s1 := ⟨s2, h1, h2⟩
theorem W_region_mid (i k : Nat) (hT : ∀ t d, T t = some d → TyOK E.P t d) (hG : ∀ f C, Γ f = some C → Meets E.P f C) (mb mb2 ks : List Nat) {id : Nat} {ops : List Oper}
    (h : opsW T Γ mb E.nt ops (Mid E T Γ i k mb2 ops (fun s => Q .normal (keepS ks s))) (ops.take i) st) : W E (.region id ops.toArray false) st Q := by
  intro a w F
  have e : ops = ops.take i ++ ((ops.drop i).take k ++ ops.drop (i + k)) := by
    have h1 : ops.drop (i + k) = (ops.drop i).drop k := by rw [List.drop_drop]
    rw [h1, List.take_append_drop, List.take_append_drop]
  have key : ∀ (l : List Oper), l = ops → ∀ Q'' : Exit → Act → World → Prop, (∀ s a w, Q .normal (keepS ks s) → FitsS E s a w → Q'' .normal a w) → wpList E.P ops.toArray Q'' l a w := by
    intro l hl Q'' hq
    rw [hl, e]
    have hh := opsW_then (E := E) ((ops.drop i).take k ++ ops.drop (i + k)) hT hG (K := fun s1 => ∃ s2, HOL E ((ops.drop i).take k) s1 s2 ∧ opsW T Γ mb2 E.nt ops (fun s => Q .normal (keepS ks s)) (ops.drop (i + k)) s2) Q'' (fun s1 a1 w1 h1 F1 => by
      obtain ⟨s2, hO, h2⟩ := h1
      exact hO a1 w1 F1 ops.toArray Q'' (ops.drop (i + k)) (fun a2 w2 F2 => opsW_sound hT hG Q'' hq _ s2 a2 w2 h2 F2)) (ops.take i) st a w h F
    rw [← e]
    rw [← e] at hh
    exact hh
  exact wp_region_lit (key ops rfl _ (fun s a w hs Fs => ⟨keepS ks s, Fs.keep ks, hs⟩))
end

section
variable {E : Env} {st : AState}
/-- A call that writes what is owned, hands back nothing, and may lay blocks: told by its run. -/
theorem HOL.write {o : Oper} {c : Call} {f : FuncId} {d r : Nat} {own : Own} (hg : o.guard = none) (ho : o.op = .call c) (hc : c.callee = .value (.func f)) (hcl : Callable E.P f) (hd : o.dst = some d) (hdn : d < E.nt)
    (h : ∀ (a : Act) (w : World) (σ : Sig), Fits E (look st.fr) (applyUps st.H noH) (fun q => q < st.nx) σ a w → ∃ s bs, σ r = some (s, bs) ∧ Calls E.P f (c.args.toList.map a.eval).toArray w fun e w' =>
      (∃ v, e = .returned v) ∧ Moved w w' (fun b => b ∈ bs) ∧ ∀ σ'' : Sig, (∀ q, q < st.nx → σ'' q = σ q) → OwnRel w' (E.D σ) σ'' own s bs) :
    HOL E [o] st ⟨(d, .junk) :: st.fr, (r, some own) :: st.H, st.nx⟩ := by
  refine HOL.one hg fun a w F K Q' hK => ?_
  obtain ⟨σ, F⟩ := F
  obtain ⟨s, bs, hr, hcalls⟩ := h a w σ F
  unfold Oper.wp
  have hfv : a.eval (.func f) = .func (.func f) #[] #[] := rfl
  have hex := exec_call (a := a) (P := E.P) (w := w) ho hc (g := f) (caps := []) (by rw [hfv]) hcl
  rw [hex]
  rw [List.append_nil]
  refine Calls.mono hcalls ?_
  rintro e w' ⟨⟨v, rfl⟩, hm, hown⟩
  have F1 := F.write r s bs hr (fun k hk hkb => hm.block k hk hkb) hm.size hm.os hm.tape ⟨hm.output, hm.drawn⟩ own (fun σ'' h'' => hown σ'' h'')
  have F2 := F1.put d hdn .junk v (fun _ _ => trivial)
  refine hK _ _ ⟨σ, ?_⟩
  rw [hd]
  have e1 : look ((d, AV.junk) :: st.fr) = upd (look st.fr) d (some .junk) := look_cons_upd _ _ _
  have e2 : applyUps ((r, some own) :: st.H) noH = upd (applyUps st.H noH) r (some own) := by
    rw [show ((r, some own) :: st.H) = [(r, some own)] ++ st.H from rfl, applyUps_append, ups1]
  show Fits E (look ((d, AV.junk) :: st.fr)) (applyUps ((r, some own) :: st.H) noH) _ σ _ w'
  rw [e1, e2]
  exact F2
end
end Go.Proofs.Ytpiaeckkjdcifaa
