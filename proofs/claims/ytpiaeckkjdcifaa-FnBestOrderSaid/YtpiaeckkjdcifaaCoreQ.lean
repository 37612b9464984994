/- The core of the method, part Q: the rule for a region that draws its order, proved. No condition. -/
import Derived.Test.YtpiaeckkjdcifaaCoreP
namespace Go.Proofs.Ytpiaeckkjdcifaa
set_option linter.unusedVariables false
set_option linter.unusedSimpArgs false
open Go

/-- The order is no matter. -/
def OrdOKP (ops : List Oper) (es : List Ent) : Prop := ordOK ops es = true
theorem ordP {ops : List Oper} {es : List Ent} (h : ordOK ops es = true) : OrdOKP ops es := h
section
variable (T : TypeId → Option TD) (Γ : FuncId → Option Ctr)
def entOf (ops : List Oper) (st : AState) (o : Oper) (e : Eff) : Ent := ⟨o.dst, e.x, e.ups, e.news, st.nx, slotsOf ops o, if readsH o.op = true then refsAt (look st.fr) (slotsOf ops o) else []⟩
/-- The operations in the order of the text, with what each touches. -/
def opsD (mb : List Nat) (nt : Nat) (ops : List Oper) (K : AState → List Ent → Prop) : List Oper → AState → List Ent → Prop
  | [], st, acc => K st acc
  | o :: l, st, acc => match stepG T Γ mb ops (look st.fr) (applyUps st.H noH) st.nx o with
    | none => False
    | some e => dstOK nt o.dst = true ∧ e.vc ∧ opsD mb nt ops K l (st.app o.dst e) (acc ++ [entOf ops st o e])
end

section
variable {T : TypeId → Option TD} {Γ : FuncId → Option Ctr} {mb : List Nat} {nt : Nat} {ops : List Oper}

/-- What was met on the way. -/
structure Built (T : TypeId → Option TD) (Γ : FuncId → Option Ctr) (mb : List Nat) (nt : Nat) (ops : List Oper) (st : AState) (es : List Ent) (s : AState) : Prop where
  ent : ∀ (j : Nat) (e : Ent), es[j]? = some e → ∃ (o : Oper) (eff : Eff), ops[j]? = some o ∧ dstOK nt o.dst = true ∧ eff.vc ∧ e.dst = o.dst ∧ e.x = eff.x ∧ e.ups = eff.ups ∧ e.news = eff.news ∧ e.slots = slotsOf ops o ∧
    e.refs = (if readsH o.op = true then refsAt (ovS gF es 0 (fun i => decide (i < j)) (look st.fr)) (slotsOf ops o) else []) ∧
    stepG T Γ mb ops (ovS gF es 0 (fun i => decide (i < j)) (look st.fr)) (ovS gH es 0 (fun i => decide (i < j)) (applyUps st.H noH)) e.nx o = some eff
  fr : look s.fr = ovS gF es 0 (fun _ => true) (look st.fr)
  H : applyUps s.H noH = ovS gH es 0 (fun _ => true) (applyUps st.H noH)
  le : st.nx ≤ s.nx
  nx : ∀ (j : Nat) (e : Ent), es[j]? = some e → st.nx ≤ e.nx ∧ e.nx + e.news ≤ s.nx ∧ ∀ (i : Nat) (a : Ent), i < j → es[i]? = some a → a.nx + a.news ≤ e.nx
  all : ∀ r : Nat, r < s.nx ↔ r < st.nx ∨ ∃ (j : Nat) (e : Ent), es[j]? = some e ∧ e.nx ≤ r ∧ r < e.nx + e.news

theorem ovS_lt {β : Type} (g : Ent → Nat → Option β) (es : List Ent) (e : Ent) (j : Nat) (hj : j ≤ es.length) (f : Nat → β) : ovS g (es ++ [e]) 0 (fun i => decide (i < j)) f = ovS g es 0 (fun i => decide (i < j)) f := by
  rw [ovS_append]
  have : decide (0 + es.length < j) = false := by simp; omega
  rw [this]; simp
theorem ovS_full {β : Type} (g : Ent → Nat → Option β) (es : List Ent) (f : Nat → β) : ovS g es 0 (fun i => decide (i < es.length)) f = ovS g es 0 (fun _ => true) f :=
  ovS_all g es 0 _ _ f (fun i hi => by simpa using hi)

theorem Built.step {st s : AState} {es : List Ent} {o : Oper} {e : Eff} (B : Built T Γ mb nt ops st es s) (ho : ops[es.length]? = some o) (hd : dstOK nt o.dst = true) (hvc : e.vc)
    (h : stepG T Γ mb ops (look s.fr) (applyUps s.H noH) s.nx o = some e) : Built T Γ mb nt ops st (es ++ [entOf ops s o e]) (s.app o.dst e) where
  ent := by
    intro j a ha
    by_cases hj : j < es.length
    · rw [List.getElem?_append_left hj] at ha
      obtain ⟨o', eff, h1, h2, h3, h4, h5, h6, h7, h8, h9, h10⟩ := B.ent j a ha
      refine ⟨o', eff, h1, h2, h3, h4, h5, h6, h7, h8, ?_, ?_⟩
      · rw [ovS_lt _ _ _ _ (by omega)]; exact h9
      · rw [ovS_lt _ _ _ _ (by omega), ovS_lt _ _ _ _ (by omega)]; exact h10
    · have hj2 : j = es.length := by
        have := (List.getElem?_eq_some_iff.1 ha).1
        simp at this; omega
      subst hj2
      rw [List.getElem?_append_right (Nat.le_refl _)] at ha
      simp only [Nat.sub_self, List.getElem?_cons_zero, Option.some.injEq] at ha
      subst ha
      refine ⟨o, e, ho, hd, hvc, rfl, rfl, rfl, rfl, rfl, ?_, ?_⟩
      · rw [ovS_lt _ _ _ _ (Nat.le_refl _), ovS_full, ← B.fr]; rfl
      · rw [ovS_lt _ _ _ _ (Nat.le_refl _), ovS_lt _ _ _ _ (Nat.le_refl _), ovS_full, ovS_full, ← B.fr, ← B.H]; exact h
  fr := by
    rw [ovS_append]
    simp only [if_true]
    rw [← B.fr, ov_gF, app_fr]; rfl
  H := by
    rw [ovS_append]
    simp only [if_true]
    rw [← B.H]
    have : ov (gH (entOf ops s o e)) (applyUps s.H noH) = applyUps e.ups (applyUps s.H noH) := ov_gH _ _
    rw [this]
    simp only [AState.app]; rw [applyUps_append]
  le := Nat.le_trans B.le (Nat.le_add_right _ _)
  nx := by
    intro j a ha
    by_cases hj : j < es.length
    · rw [List.getElem?_append_left hj] at ha
      obtain ⟨h1, h2, h3⟩ := B.nx j a ha
      refine ⟨h1, Nat.le_trans h2 (Nat.le_add_right _ _), fun i b hi hb => ?_⟩
      rw [List.getElem?_append_left (by omega)] at hb
      exact h3 i b hi hb
    · have hj2 : j = es.length := by
        have := (List.getElem?_eq_some_iff.1 ha).1
        simp at this; omega
      subst hj2
      rw [List.getElem?_append_right (Nat.le_refl _)] at ha
      simp only [Nat.sub_self, List.getElem?_cons_zero, Option.some.injEq] at ha
      subst ha
      refine ⟨B.le, Nat.le_refl _, fun i b hi hb => ?_⟩
      rw [List.getElem?_append_left (by omega)] at hb
      exact (B.nx i b hb).2.1
  all := by
    intro r
    constructor
    · intro hr
      by_cases h1 : r < s.nx
      · rcases (B.all r).1 h1 with h2 | ⟨j, a, h2, h3⟩
        · exact .inl h2
        · exact .inr ⟨j, a, by rw [List.getElem?_append_left (List.getElem?_eq_some_iff.1 h2).1]; exact h2, h3⟩
      · exact .inr ⟨es.length, entOf ops s o e, by simp, by simp only [entOf]; omega, hr⟩
    · rintro (h1 | ⟨j, a, h2, h3, h4⟩)
      · have := B.le; simp only [AState.app]; omega
      · by_cases hj : j < es.length
        · rw [List.getElem?_append_left hj] at h2
          have := (B.nx j a h2).2.1
          simp only [AState.app]; omega
        · have hj2 : j = es.length := by
            have := (List.getElem?_eq_some_iff.1 h2).1
            simp at this; omega
          subst hj2
          rw [List.getElem?_append_right (Nat.le_refl _)] at h2
          simp only [Nat.sub_self, List.getElem?_cons_zero, Option.some.injEq] at h2
          subst h2
          exact h4

theorem opsD_built {K : AState → List Ent → Prop} {st : AState} : ∀ (l pre : List Oper) (s : AState) (es : List Ent), pre ++ l = ops → es.length = pre.length → Built T Γ mb nt ops st es s → opsD T Γ mb nt ops K l s es →
    ∃ s' es', K s' es' ∧ es'.length = ops.length ∧ Built T Γ mb nt ops st es' s'
  | [], pre, s, es, hp, hl, B, h => ⟨s, es, h, by rw [hl, ← hp]; simp, B⟩
  | o :: l, pre, s, es, hp, hl, B, h => by
    simp only [opsD] at h
    split at h
    · exact h.elim
    · rename_i e he
      obtain ⟨h1, h2, h3⟩ := h
      refine opsD_built l (pre ++ [o]) _ _ (by simpa using hp) (by simp [hl]) (B.step ?_ h1 h2 he) h3
      rw [← hp, hl]; simp

theorem Built.nil (st : AState) : Built T Γ mb nt ops st [] st where
  ent := by intro j e h; simp at h
  fr := rfl
  H := rfl
  le := Nat.le_refl _
  nx := by intro j e h; simp at h
  all := by intro r; simp

def KnS (st : AState) (es : List Ent) (S : Nat → Bool) (r : Nat) : Prop := r < st.nx ∨ ∃ (j : Nat) (e : Ent), es[j]? = some e ∧ S j = true ∧ e.nx ≤ r ∧ r < e.nx + e.news

theorem look_ne {α : Type} : ∀ (l : List (Nat × α)) (n : Nat), look l n ≠ none → ∃ p ∈ l, p.1 = n
  | [], _, h => absurd rfl h
  | (k, v) :: l, n, h => by
    simp only [look] at h
    split at h
    · rename_i e; exact ⟨_, List.mem_cons_self .., e.symm⟩
    · obtain ⟨p, h1, h2⟩ := look_ne l n h
      exact ⟨p, List.mem_cons_of_mem _ h1, h2⟩

/-- What conflicts. -/
theorem conflict_slot {a b : Ent} {d : Nat} (ha : a.dst = some d) (hb : d ∈ b.slots) : conflict a b = true := by simp [conflict, ha, hb]
theorem conflict_slot' {a b : Ent} {d : Nat} (hb : b.dst = some d) (ha : d ∈ a.slots) : conflict a b = true := by simp [conflict, hb, ha]
theorem conflict_dst {a b : Ent} {d : Nat} (ha : a.dst = some d) (hb : b.dst = some d) : conflict a b = true := by simp [conflict, ha, hb]
theorem conflict_ref {a b : Ent} {r : Nat} (ha : look a.ups r ≠ none) (hb : r ∈ b.refs) : conflict a b = true := by
  obtain ⟨p, h1, rfl⟩ := look_ne _ _ ha
  simp only [conflict, Bool.or_eq_true, List.any_eq_true]
  exact .inl (.inr ⟨p, h1, by simp [hb]⟩)
theorem conflict_ref' {a b : Ent} {r : Nat} (hb : look b.ups r ≠ none) (ha : r ∈ a.refs) : conflict a b = true := by
  obtain ⟨p, h1, rfl⟩ := look_ne _ _ hb
  simp only [conflict, Bool.or_eq_true, List.any_eq_true]
  exact .inr ⟨p, h1, by simp [ha]⟩
theorem conflict_ups {a b : Ent} {r : Nat} (ha : look a.ups r ≠ none) (hb : look b.ups r ≠ none) : conflict a b = true := by
  obtain ⟨p, h1, rfl⟩ := look_ne _ _ ha
  obtain ⟨q, h2, h3⟩ := look_ne _ _ hb
  simp only [conflict, Bool.or_eq_true, List.any_eq_true]
  exact .inl (.inr ⟨p, h1, .inr ⟨q, h2, by simp [h3]⟩⟩)

/-- Downward closed. -/
def DC (ops : List Oper) (S : Nat → Bool) : Prop := ∀ j o, S j = true → ops[j]? = some o → ∀ e ∈ o.after, Region.binds .any e = true → S e.on = true
theorem DC.anc {S : Nat → Bool} (h : DC ops S) {i j : Nat} (ha : Anc ops i j) : S j = true → S i = true := by
  induction ha with
  | one ho he hb => exact fun hj => h _ _ hj ho _ he hb
  | more ho he hb _ ih => exact fun hj => ih (h _ _ hj ho _ he hb)

def cnt (S : Nat → Bool) : Nat → Nat
  | 0 => 0
  | n + 1 => cnt S n + (if S n then 0 else 1)
theorem cnt_zero {S : Nat → Bool} : ∀ n, cnt S n = 0 → ∀ i, i < n → S i = true
  | 0, _, i, hi => by omega
  | n + 1, h, i, hi => by
    simp only [cnt] at h
    by_cases hn : S n = true
    · by_cases hin : i = n
      · subst hin; exact hn
      · exact cnt_zero n (by omega) i (by omega)
    · simp [hn] at h
theorem cnt_same {S S' : Nat → Bool} : ∀ n, (∀ k, k < n → S' k = S k) → cnt S' n = cnt S n
  | 0, _ => rfl
  | n + 1, h => by simp only [cnt, cnt_same n (fun k hk => h k (by omega)), h n (by omega)]
theorem cnt_set {S S' : Nat → Bool} {i : Nat} (h0 : S i = false) (h1 : S' i = true) (hr : ∀ k, k ≠ i → S' k = S k) : ∀ n, i < n → cnt S' n + 1 = cnt S n
  | 0, h => by omega
  | n + 1, h => by
    simp only [cnt]
    by_cases hin : i = n
    · subst hin
      rw [cnt_same i (fun k hk => hr k (by omega)), h0, h1]; simp
    · have := cnt_set h0 h1 hr n (by omega)
      rw [hr n (fun e => hin e.symm)]; omega
theorem cnt_least {S : Nat → Bool} : ∀ n, 0 < cnt S n → ∃ j, j < n ∧ S j = false ∧ ∀ i, i < j → S i = true
  | 0, h => by simp [cnt] at h
  | n + 1, h => by
    by_cases hn : 0 < cnt S n
    · obtain ⟨j, h1, h2, h3⟩ := cnt_least n hn
      exact ⟨j, by omega, h2, h3⟩
    · refine ⟨n, by omega, ?_, cnt_zero n (by omega)⟩
      simp only [cnt] at h
      cases hs : S n with
      | false => rfl
      | true => rw [hs] at h; simp at h; omega

variable {E : Env} {st : AState} {Q : Exit → AState → Prop}

theorem W_region_draw (hT : ∀ t d, T t = some d → TyOK E.P t d) (hG : ∀ f C, Γ f = some C → Meets E.P f C) (hm : E.P.follows .mixedOrders = true) (mb ks : List Nat) {id : Nat} {ops : List Oper}
    (h : opsD T Γ mb E.nt ops (fun s es => OrdOKP ops es ∧ Q .normal (keepS ks s)) ops st []) : W E (.region id ops.toArray true) st Q := by
  intro a w F
  obtain ⟨s, es, ⟨hord, hQ⟩, hlen, B⟩ := opsD_built (ops := ops) ops [] st [] rfl rfl (Built.nil st) h
  obtain ⟨hord, hedge⟩ := ordOK_spec hord
  refine wp_region_any hm ?_
  have main : ∀ (fuel : Nat) (listed : Array Bool) (a : Act) (w : World), listed.size = ops.length → DC ops (fun i => listed.getD i false) → cnt (fun i => listed.getD i false) ops.length = fuel →
      (∃ σ, Fits E (ovS gF es 0 (fun i => listed.getD i false) (look st.fr)) (ovS gH es 0 (fun i => listed.getD i false) (applyUps st.H noH)) (KnS st es (fun i => listed.getD i false)) σ a w) →
      wpAny E.P .any ops.toArray (fun e a w => ∃ s, FitsS E s a w ∧ Q e s) fuel listed a w := by
    intro fuel
    induction fuel with
    | zero =>
      intro listed a w hsz hdc hcnt hF
      have hall := cnt_zero _ hcnt
      refine ⟨?_, keepS ks s, FitsS.keep ks ?_, hQ⟩
      · rw [List.eq_nil_iff_forall_not_mem]
        intro j hj
        rw [mem_ready] at hj
        obtain ⟨h1, o, h2, _⟩ := hj
        have hj : j < ops.length := by simpa using (Array.getElem?_eq_some_iff.1 h2).1
        have := hall j hj
        have hjs : j < listed.size := by omega
        simp only [Array.getD, hjs, dif_pos] at h1 this
        simp_all
      · obtain ⟨σ, F⟩ := hF
        refine ⟨σ, ?_⟩
        rw [ovS_all gF es 0 _ (fun _ => true) _ (fun i hi => by simpa using hall i (by omega)), ovS_all gH es 0 _ (fun _ => true) _ (fun i hi => by simpa using hall i (by omega)), ← B.fr, ← B.H] at F
        have hk : KnS st es (fun i => listed.getD i false) = fun r => r < s.nx := by
          funext r; apply propext
          rw [B.all r]
          constructor
          · rintro (h | ⟨j, e, h1, _, h2⟩)
            · exact .inl h
            · exact .inr ⟨j, e, h1, h2⟩
          · rintro (h | ⟨j, e, h1, h2⟩)
            · exact .inl h
            · exact .inr ⟨j, e, h1, hall j (by have := (List.getElem?_eq_some_iff.1 h1).1; omega), h2⟩
        rw [hk] at F; exact F
    | succ fuel ih =>
      intro listed a w hsz hdc hcnt hF
      refine ⟨fun hnil => ?_, fun i hi => ?_⟩
      · exfalso
        obtain ⟨j, h1, h2, h3⟩ := cnt_least ops.length (S := fun i => listed.getD i false) (by omega)
        have : j ∈ Region.ready .any ops.toArray listed := by
          rw [mem_ready]
          have hjs : j < listed.size := by omega
          refine ⟨?_, ops[j], by simp [h1], fun e he hb => h3 _ (hedge j _ (by simp [h1]) e he hb)⟩
          simp only [Array.getD, hjs, dif_pos] at h2 ⊢
          exact h2
        rw [hnil] at this; cases this
      · rw [mem_ready] at hi
        obtain ⟨hi1, o, ho, hafter⟩ := hi
        have ho' : ops[i]? = some o := by simpa using ho
        have hil : i < ops.length := (List.getElem?_eq_some_iff.1 ho').1
        have his : i < listed.size := by omega
        have hi0 : listed.getD i false = false := by simp only [Array.getD, his, dif_pos] at hi1 ⊢; exact hi1
        have hanc : ∀ k, Anc ops k i → listed.getD k false = true := by
          intro k hk
          cases hk with
          | one h1 h2 h3 => rw [ho'] at h1; cases h1; exact hafter _ h2 h3
          | more h1 h2 h3 h4 => rw [ho'] at h1; cases h1; exact hdc.anc h4 (hafter _ h2 h3)
        have hnot : ∀ k, Anc ops i k → listed.getD k false = false := by
          intro k hk
          cases hx : listed.getD k false with
          | false => rfl
          | true => have : listed.getD i false = true := hdc.anc hk hx; rw [hi0] at this; cases this
        obtain ⟨e, he⟩ : ∃ e, es[i]? = some e := ⟨es[i]'(by omega), by simp [show i < es.length by omega]⟩
        obtain ⟨o2, eff, h1, hd, hvc, e1, e2, e3, e4, e5, e6, hstep⟩ := B.ent i e he
        rw [ho'] at h1; cases h1
        have cut : ∀ (k : Nat) (b : Ent), es[k]? = some b → (k < i → conflict b e = true) → (i < k → conflict e b = true) → k ≠ i → listed.getD k false = decide (k < i) := by
          intro k b hb hl hr hne
          by_cases hk : k < i
          · simp only [hk, decide_true]; exact hanc k (hord k i b e hk hb he (hl hk))
          · have : i < k := by omega
            simp only [hk, decide_false]; exact hnot k (hord i k e b this he hb (hr this))
        have hfr : ∀ t ∈ slotsOf ops o, ovS gF es 0 (fun i => listed.getD i false) (look st.fr) t = ovS gF es 0 (fun k => decide (k < i)) (look st.fr) t := by
          intro t ht
          refine ovS_congr gF t es 0 _ _ _ _ (fun k b hb hg => ?_) rfl
          simp only [Nat.zero_add]
          have hbd : b.dst = some t := by simp only [gF] at hg; split at hg; assumption; exact absurd rfl hg
          by_cases hki : k = i
          · subst hki; simp [hi0]
          · exact cut k b hb (fun _ => conflict_slot hbd (by rw [e5]; exact ht)) (fun _ => conflict_slot' hbd (by rw [e5]; exact ht)) hki
        have hHe : readsH o.op = true → ∀ r ∈ refsAt (ovS gF es 0 (fun k => decide (k < i)) (look st.fr)) (slotsOf ops o), ovS gH es 0 (fun k => decide (k < i)) (applyUps st.H noH) r = ovS gH es 0 (fun i => listed.getD i false) (applyUps st.H noH) r := by
          intro hrd r hr
          refine ovS_congr gH r es 0 _ _ _ _ (fun k b hb hg => ?_) rfl
          simp only [Nat.zero_add]
          by_cases hki : k = i
          · subst hki; simp [hi0]
          · exact (cut k b hb (fun _ => conflict_ref hg (by rw [e6, if_pos hrd]; exact hr)) (fun _ => conflict_ref' hg (by rw [e6, if_pos hrd]; exact hr)) hki).symm
        have hs2 := hstep
        rw [← stepG_congr (T := T) (Γ := Γ) (mb := mb) (nx := e.nx) hfr hHe] at hs2
        obtain ⟨σ, F⟩ := hF
        have hnx : ∀ k, k < eff.news → ¬ KnS st es (fun i => listed.getD i false) (e.nx + k) := by
          rintro k hk (h | ⟨j, b, h1, h2, h3, h4⟩)
          · have := (B.nx i e he).1; omega
          · by_cases hji : j = i
            · subst hji; simp only [] at h2; rw [hi0] at h2; cases h2
            · by_cases hlt : j < i
              · have := (B.nx i e he).2.2 j b hlt h1; omega
              · have := (B.nx j b h1).2.2 i e (by omega) he; omega
        have hG1 := stepG_sound hT hG F hnx hd hs2 hvc
        unfold wpOp
        rw [ho]
        simp only []
        have key : ∀ a' w' σ', Fits E (updD (ovS gF es 0 (fun i => listed.getD i false) (look st.fr)) o.dst (some eff.x)) (applyUps eff.ups (ovS gH es 0 (fun i => listed.getD i false) (applyUps st.H noH))) (fun r => KnS st es (fun i => listed.getD i false) r ∨ (e.nx ≤ r ∧ r < e.nx + eff.news)) σ' a' w' →
            wpAny E.P .any ops.toArray (fun e a w => ∃ s, FitsS E s a w ∧ Q e s) fuel (listed.setIfInBounds i true) a' w' := by
          intro a' w' σ' F'
          have hset : ∀ k, k ≠ i → (listed.setIfInBounds i true).getD k false = listed.getD k false := fun k hk => getD_set_ne false (fun e => hk e.symm)
          have hseti : (listed.setIfInBounds i true).getD i false = true := by simp [his]
          refine ih _ a' w' (by simpa using hsz) ?_ ?_ ⟨σ', ?_⟩
          · intro j o' hj ho2 ed he2 hb
            by_cases hji : j = i
            · subst hji
              rw [ho'] at ho2; cases ho2
              exact getD_set_true (hafter _ he2 hb)
            · simp only [] at hj
              rw [hset j hji] at hj
              exact getD_set_true (hdc j o' hj ho2 ed he2 hb)
          · have := cnt_set (S := fun i => listed.getD i false) (S' := fun k => (listed.setIfInBounds i true).getD k false) hi0 hseti hset ops.length hil
            omega
          · have a1 : ovS gF es 0 (fun k => (listed.setIfInBounds i true).getD k false) (look st.fr) = ov (gF e) (ovS gF es 0 (fun i => listed.getD i false) (look st.fr)) := by
              refine ovS_add gF es i 0 e _ _ _ he (by simpa using hi0) (by simpa using hseti) (fun k hk => by simpa using hset k hk) (fun k b hk hb hs n hn => ?_)
              cases hx : gF b n with
              | none => rfl
              | some v =>
                exfalso
                simp only [gF] at hx hn
                split at hx
                · rename_i h1
                  split at hn
                  · rename_i h2
                    have := hnot k (hord i k e b hk he hb (conflict_dst h2 h1))
                    simp only [Nat.zero_add] at hs
                    rw [this] at hs; cases hs
                  · exact hn rfl
                · cases hx
            have a2 : ovS gH es 0 (fun k => (listed.setIfInBounds i true).getD k false) (applyUps st.H noH) = ov (gH e) (ovS gH es 0 (fun i => listed.getD i false) (applyUps st.H noH)) := by
              refine ovS_add gH es i 0 e _ _ _ he (by simpa using hi0) (by simpa using hseti) (fun k hk => by simpa using hset k hk) (fun k b hk hb hs n hn => ?_)
              cases hx : gH b n with
              | none => rfl
              | some v =>
                exfalso
                have := hnot k (hord i k e b hk he hb (conflict_ups hn (by simp only [gH] at hx; rw [hx]; simp)))
                simp only [Nat.zero_add] at hs
                rw [this] at hs; cases hs
            have a3 : KnS st es (fun k => (listed.setIfInBounds i true).getD k false) = fun r => KnS st es (fun i => listed.getD i false) r ∨ (e.nx ≤ r ∧ r < e.nx + eff.news) := by
              funext r; apply propext
              constructor
              · rintro (h | ⟨j, b, h1, h2, h3⟩)
                · exact .inl (.inl h)
                · by_cases hji : j = i
                  · subst hji; rw [he] at h1; cases h1; rw [← e4]; exact .inr h3
                  · simp only [] at h2; rw [hset j hji] at h2; exact .inl (.inr ⟨j, b, h1, h2, h3⟩)
              · rintro ((h | ⟨j, b, h1, h2, h3⟩) | h)
                · exact .inl h
                · exact .inr ⟨j, b, h1, getD_set_true h2, h3⟩
                · rw [← e4] at h; exact .inr ⟨i, e, he, hseti, h⟩
            rw [a1, a2, a3, ov_gF, e1, e2]
            have a4 : ov (gH e) (ovS gH es 0 (fun i => listed.getD i false) (applyUps st.H noH)) = applyUps eff.ups (ovS gH es 0 (fun i => listed.getD i false) (applyUps st.H noH)) := by
              rw [← e3]; exact ov_gH e.ups _
            rw [a4]; exact F'
        have := hG1 (wpAny E.P .any ops.toArray (fun e a w => ∃ s, FitsS E s a w ∧ Q e s) fuel (listed.setIfInBounds i true)) (fun e a w => ∃ s, FitsS E s a w ∧ Q e s) key
        split
        · rename_i hw; rw [if_pos hw] at this; exact .inl this
        · rename_i hw; rw [if_neg hw] at this; exact this
  have hrep : (fun i => (Array.replicate ops.length false).getD i false) = fun _ => false := by
    funext i
    simp only [Array.getD]
    split <;> simp
  have hn : ops.toArray.size = ops.length := by simp
  rw [hn]
  refine main ops.length _ a _ (by simp) ?_ ?_ ?_
  · rw [hrep]; intro j o h; cases h
  · rw [hrep]
    have : ∀ n, cnt (fun _ => false) n = n := by
      intro n; induction n with
      | zero => rfl
      | succ n ih => simp [cnt, ih]
    exact this _
  · obtain ⟨σ, F⟩ := F
    refine ⟨σ, ?_⟩
    rw [hrep]
    have b1 : ∀ {β : Type} (g : Ent → Nat → Option β) (es : List Ent) (k : Nat) (f : Nat → β), ovS g es k (fun _ => false) f = f := by
      intro β g es
      induction es with
      | nil => intros; rfl
      | cons e es ih => intro k f; simp [ovS, ih]
    rw [b1, b1]
    have b2 : KnS st es (fun _ => false) = fun r => r < st.nx := by
      funext r; apply propext; simp [KnS]
    rw [b2]
    exact F.grow (fun _ _ => rfl) (Nat.le_refl _) rfl rfl ⟨rfl, Nat.le_succ _⟩
end
end Go.Proofs.Ytpiaeckkjdcifaa
