/- The core of the method, part J: a call of a Go function by its contract is sound. No condition. -/
import Derived.Test.YtpiaeckkjdcifaaCoreI
namespace Go.Proofs.Ytpiaeckkjdcifaa
set_option linter.unusedVariables false
set_option linter.unusedSimpArgs false
open Go

theorem look_append {α : Type} (l1 l2 : List (Nat × α)) (q : Nat) : look (l1 ++ l2) q = (look l1 q).or (look l2 q) := by
  induction l1 with
  | nil => rfl
  | cons p l ih =>
    obtain ⟨k, v⟩ := p
    simp only [List.cons_append, look]
    by_cases h : q = k <;> simp [h]
    simpa using ih
theorem look_zip_none {α : Type} : ∀ (ks : List Nat) (vs : List α) (q : Nat), q ∉ ks → look (ks.zip vs) q = none
  | [], _, _, _ => by simp [look]
  | _ :: _, [], _, _ => by simp [look]
  | k :: ks, v :: vs, q, h => by
    simp only [List.zip_cons_cons, look]
    have h1 : q ≠ k := fun e => h (by simp [e])
    rw [if_neg h1]
    exact look_zip_none ks vs q (fun h2 => h (List.mem_cons_of_mem _ h2))
theorem look_zip_some {α : Type} : ∀ (ks : List Nat) (vs : List α) (i q : Nat) (x : α), ks.Nodup → ks[i]? = some q → vs[i]? = some x → look (ks.zip vs) q = some x
  | [], _, i, q, x, _, h, _ => by simp at h
  | _ :: _, [], i, q, x, _, _, h => by simp at h
  | k :: ks, v :: vs, 0, q, x, _, h1, h2 => by
    simp at h1 h2; subst h1; subst h2; simp [look]
  | k :: ks, v :: vs, i + 1, q, x, hn, h1, h2 => by
    simp only [List.getElem?_cons_succ] at h1 h2
    have hm := List.mem_of_getElem? h1
    have hne : q ≠ k := fun e => (List.nodup_cons.1 hn).1 (e ▸ hm)
    simp only [List.zip_cons_cons, look]
    rw [if_neg hne]
    exact look_zip_some ks vs i q x (List.nodup_cons.1 hn).2 h1 h2

section
variable {E : Env} {fr : Nat → Option AV} {H : Nat → Option Own} {Kn : Nat → Prop} {σ : Sig} {a : Act} {w w' : World} {o : Oper} {nx : Nat}

/-- The operation, and what is behind it. -/
def Step (E : Env) (fr : Nat → Option AV) (H : Nat → Option Own) (Kn : Nat → Prop) (a : Act) (w : World) (o : Oper) (nx : Nat) (eff : Eff) : Prop :=
  ∀ (K : Act → World → Prop) (Q : Exit → Act → World → Prop),
    (∀ v w' σ', Fits E fr (applyUps eff.ups H) (fun r => Kn r ∨ (nx ≤ r ∧ r < nx + eff.news)) σ' a w' →
      (∀ σ'' : Sig, (∀ r, (Kn r ∨ (nx ≤ r ∧ r < nx + eff.news)) → σ'' r = σ' r) → RelV w' (E.D σ') σ'' eff.x v) → K (a.put o.dst v) w') → o.wp E.P a w K Q

theorem Good.step {eff : Eff} (h : Good E fr H Kn a w o nx eff) : Step E fr H Kn a w o nx eff := by
  obtain ⟨v, w', σ', hrun, hF, hx⟩ := h
  intro K Q hK
  unfold Oper.wp
  rcases hrun with hrun | ⟨hrun, hv⟩
  · rw [hrun]; exact hK v w' σ' hF hx
  · rw [hrun]; subst hv; exact hK undef w' σ' hF hx

theorem exec_call {c : Call} {f : Operand} {g : FuncId} {caps : List Value} (ho : o.op = .call c) (hc : c.callee = .value f) (hf : a.eval f = .func (.func g) #[] caps.toArray) {P : Program} (hcall : Callable P g) :
    (execOp a.eval o).run P w = .ok (.enter g (c.args.toList.map a.eval ++ caps).toArray) w := by
  obtain ⟨fn, h1, h2, h3⟩ := hcall
  have h2' : ¬ fn.name = "runtime.NumGoroutine" := by simpa using h2
  have h3' : ¬ fn.body = none := by
    intro e; rw [e] at h3; simp at h3
  have ha : (c.args.map a.eval ++ caps.toArray) = (c.args.toList.map a.eval ++ caps).toArray := by
    apply Array.toList_inj.1; simp
  simp [execOp, ho, resolve, hc, hf, Deferred.ofValue, invoke, callFunc, h1, h2', h3']

theorem lent_get (F : Fits E fr H Kn σ a w) {os : List (Nat × Own)} (hos : ∀ p ∈ os, H p.1 = some p.2) (i : Nat) (p : Nat × Own) (hp : os[i]? = some p) : ∃ s bs, σ p.1 = some (s, bs) ∧ (lent σ os)[i]? = some (s, bs) ∧ Kn p.1 ∧
    ∀ σ' : Sig, (∀ r, Kn r → σ' r = σ r) → OwnRel w (E.D σ) σ' p.2 s bs := by
  have hH := hos p (List.mem_of_getElem? hp)
  obtain ⟨s, bs, h1, h2⟩ := F.heap _ _ hH
  exact ⟨s, bs, h1, by simp [lent, hp, h1], F.kn hH, h2⟩

theorem lent_in (F : Fits E fr H Kn σ a w) {os : List (Nat × Own)} (hos : ∀ p ∈ os, H p.1 = some p.2) (b : Nat) (h : inB (lent σ os) b) : ∃ p ∈ os, ∃ s bs, σ p.1 = some (s, bs) ∧ b ∈ bs := by
  obtain ⟨s, hs, hb⟩ := h
  obtain ⟨p, hp, rfl⟩ := List.mem_map.1 hs
  obtain ⟨s, bs, h1, h2⟩ := F.heap _ _ (hos p hp)
  exact ⟨p, hp, s, bs, h1, by simpa [h1] using hb⟩

theorem flatO_D {D D' : Nat → Prop} {s1 s2 : Sig} {own : Own} {s : Value} {bs : List Nat} (hf : flatO own = true) (h : OwnRel w D s1 own s bs) : OwnRel w D' s2 own s bs := by
  cases own <;> first | exact h | simp [flatO] at hf

theorem step_callR (F : Fits E fr H Kn σ a w) {c : Call} {f : Operand} {g : FuncId} {caps ys as : List AV} {os : List (Nat × Own)} {sn : List Nat} {C : Ctr} {rl : List AV → List Own → Option (Prop × (CRes → Prop))} {pre : Prop} {S : CRes → Prop}
    (hcl0 : Callable E.P g) (hM : MeetsR E.P g C rl) (ho : o.op = .call c) (hc : c.callee = .value f)
    (hf : Knows E Kn σ w (.clo g caps) (a.eval f)) (hys : KnowsL E Kn σ w ys (c.args.toList.map a.eval)) (hconv : conv C.al H C.modes (ys ++ caps) = some (as, os, sn)) (hrun : rl as (os.map (·.2)) = some (pre, S)) (hok0 : callOK0 C os sn = true) (hpre : pre)
    (K : Act → World → Prop) (Q : Exit → Act → World → Prop)
    (hK0 : ∀ R, S R → callOK1 C os R = true ∧ (∀ i, i < R.new.length → ¬ Kn (nx + i)) ∧
      ∀ v w' σ', Fits E fr (applyUps ((os.map (·.1)).zip (R.muts.map some) ++ ((List.range R.new.length).map (nx + ·)).zip (R.new.map some)) H) (fun r => Kn r ∨ (nx ≤ r ∧ r < nx + R.new.length)) σ' a w' →
        (∀ σ'' : Sig, (∀ r, (Kn r ∨ (nx ≤ r ∧ r < nx + R.new.length)) → σ'' r = σ' r) → RelV w' (E.D σ') σ'' (renV (fun i => nx + i) R.res) v) → K (a.put o.dst v) w') : o.wp E.P a w K Q := by
  simp only [callOK0, Bool.and_eq_true, decide_eq_true_eq] at hok0
  obtain ⟨⟨⟨hnd, hsnok⟩, hals⟩, hocl⟩ := hok0
  obtain ⟨capsV, hfv, hcl⟩ := hf.self
  have hvs : RelL w (E.D σ) σ (ys ++ caps) (c.args.toList.map a.eval ++ capsV) := by
    have h1 := hys σ (fun _ _ => rfl)
    generalize c.args.toList.map a.eval = l at h1
    clear hconv hys
    induction ys generalizing l with
    | nil => have h1 : l = [] := h1; subst h1; exact hcl
    | cons y ys ih => obtain ⟨v, l', rfl, hy, hl⟩ := h1; exact ⟨v, l' ++ capsV, rfl, hy, ih l' hl⟩
  let ss := lent σ os
  let A : Nat → Prop := fun b => C.al = true ∧ E.D σ b ∧ ¬ inB ss b
  let D0 : Nat → Prop := fun b => inB ss b ∨ A b
  -- what is lent is owned
  have hos0 : ∀ p ∈ os, H p.1 = some p.2 := (conv_sound (D := fun _ => False) F C.al (fun _ h => h.elim) (fun _ _ _ _ _ _ => trivial) C.modes (ys ++ caps) _ as os sn hconv hvs (fun _ _ _ _ _ _ _ h => h)).2
  have hin : ∀ b, inB ss b → ∃ p ∈ os, ∃ s bs, σ p.1 = some (s, bs) ∧ b ∈ bs := fun b h => lent_in F hos0 b h
  have hindom : ∀ b, inB ss b → Sig.dom σ b := fun b h => by obtain ⟨p, _, s, bs, h1, h2⟩ := hin b h; exact ⟨p.1, s, bs, h1, h2⟩
  have hD0 : ∀ b, D0 b → E.D σ b := fun b h => by
    rcases h with h | h
    · exact .inl (hindom b h)
    · exact h.2.1
  have hother : ∀ q s bs, σ q = some (s, bs) → q ∉ os.map (·.1) → ∀ b ∈ bs, ¬ inB ss b := fun q s bs h1 h2 b hb hi => by
    obtain ⟨p, hp, s', bs', h3, h4⟩ := hin b hi
    exact F.disj q p.1 s bs s' bs' h1 h3 (fun e => h2 (by rw [e]; exact List.mem_map.2 ⟨p, hp, rfl⟩)) b hb h4
  have hsnD : ∀ r ∈ sn, ∀ s bs, σ r = some (s, bs) → ∀ b ∈ bs, ¬ D0 b := by
    intro r hr s bs h1 b hb hD
    have hr2 : r ∉ os.map (·.1) := by
      have := List.all_eq_true.1 hsnok r hr
      simpa using this
    rcases hD with h | h
    · exact hother r s bs h1 hr2 b hb h
    · have : sn = [] := by
        have h4 := hals
        simp only [h.1, Bool.not_true, Bool.false_or, List.isEmpty_iff] at h4; exact h4
      rw [this] at hr; cases hr
  obtain ⟨hargs, _⟩ := conv_sound (D := D0) F C.al hD0 (fun _ _ _ _ _ _ => trivial) C.modes (ys ++ caps) _ as os sn hconv hvs hsnD
  have hdlt : ∀ b, E.D σ b → b < w.heap.size := fun b h => by
    rcases h with ⟨r, s, bs, h1, h2⟩ | h
    · exact (F.lt r s bs h1 b h2).1
    · exact Nat.lt_of_lt_of_le (F.old b h).1 F.size
  have howns : OwnsRel w D0 noSig (os.map (·.2)) ss := by
    refine OwnsRel.of _ _ (by simp [ss, lent]) (fun i ow s h1 h2 => ?_)
    rw [List.getElem?_map, Option.map_eq_some_iff] at h1
    obtain ⟨p, hp, rfl⟩ := h1
    obtain ⟨s', bs', h3, h4, _, h5⟩ := lent_get F hos0 i p hp
    rw [show ss[i]? = _ from h4] at h2; cases h2
    exact OwnRel.stab (dom_weak hD0 (fun _ => .inr rfl)) (fun _ _ => rfl) (h5 σ fun _ _ => rfl)
  have hapart : ApartL ss := by
    intro i j s t h1 h2 hne b hb1 hb2
    have hi : i < os.length := by have := (List.getElem?_eq_some_iff.1 h1).1; simpa [ss, lent] using this
    have hj : j < os.length := by have := (List.getElem?_eq_some_iff.1 h2).1; simpa [ss, lent] using this
    obtain ⟨s1, bs1, h3, h4, _⟩ := lent_get F hos0 i _ (List.getElem?_eq_getElem hi)
    obtain ⟨s2, bs2, h5, h6, _⟩ := lent_get F hos0 j _ (List.getElem?_eq_getElem hj)
    rw [show ss[i]? = _ from h4] at h1; cases h1
    rw [show ss[j]? = _ from h6] at h2; cases h2
    refine F.disj _ _ _ _ _ _ h3 h5 (fun e => hne ?_) b hb1 hb2
    have : (os.map (·.1))[i]? = (os.map (·.1))[j]? := by simp [hi, hj, e]
    exact (List.getElem?_inj (by simpa using hi) hnd).1 this
  have hcalls := hM w (c.args.toList.map a.eval ++ capsV) as (os.map (·.2)) ss A pre S hrun hpre (conv_clean _ _ _ _ _ _ _ hconv) (by simpa using hocl) (fun b h => ⟨hdlt b h.2.1, h.2.2⟩) (fun hal b h => by have h1 := h.1; rw [hal] at h1; cases h1) hargs howns (fun b h => hdlt b (.inl (hindom b h))) hapart
  unfold Oper.wp
  rw [exec_call ho hc hfv hcl0]
  refine Calls.mono hcalls ?_
  rintro e w' ⟨R, hSR, v, ns, rfl, hmv, hmuts, hnews, hnsb, hnsap, hres⟩
  obtain ⟨hok1, hnx, hK⟩ := hK0 R hSR
  simp only [callOK1, Bool.and_eq_true, decide_eq_true_eq] at hok1
  obtain ⟨⟨⟨⟨hncl, hmcl⟩, hml⟩, halm⟩, hbnd⟩ := hok1
  have hnl : R.new.length = ns.length := hnews.length
  have hmlen : R.muts.length = os.length := hml
  let σ' : Sig := fun q => if nx ≤ q ∧ q < nx + ns.length then ns[q - nx]? else σ q
  have hKnew : ∀ q, Kn q → ¬ (nx ≤ q ∧ q < nx + ns.length) := fun q hq h => by
    have := hnx (q - nx) (by omega)
    rw [show nx + (q - nx) = q by omega] at this
    exact this hq
  have sold : ∀ q, Kn q → σ' q = σ q := fun q hq => by simp only [σ']; rw [if_neg (hKnew q hq)]
  have snew : ∀ i, i < ns.length → σ' (nx + i) = ns[i]? := fun i hi => by
    simp only [σ']; rw [if_pos (by omega)]; congr 1; omega
  have hdom' : ∀ b, Sig.dom σ' b → Sig.dom σ b ∨ inB ns b := fun b h => by
    obtain ⟨q, s, bs, h1, h2⟩ := h
    simp only [σ'] at h1
    split at h1
    · right; exact ⟨(s, bs), List.mem_of_getElem? h1, h2⟩
    · left; exact ⟨q, s, bs, h1, h2⟩
  have hDmut : C.al = true → ∀ b, E.D σ' b → inB ss b ∨ inB ns b ∨ A b := fun hal b h => by
    rcases h with h | h
    · rcases hdom' b h with h | h
      · by_cases hi : inB ss b
        · exact .inl hi
        · exact .inr (.inr ⟨hal, .inl h, hi⟩)
      · exact .inr (.inl h)
    · by_cases hi : inB ss b
      · exact .inl hi
      · exact .inr (.inr ⟨hal, .inr h, hi⟩)
  have hDnew : ∀ b, E.D σ' b → inB ss b ∨ inB ns b ∨ avoid C w A b := fun b h => by
    by_cases hal : C.al = true
    · rcases hDmut hal b h with h | h | h
      · exact .inl h
      · exact .inr (.inl h)
      · exact .inr (.inr (by simp only [avoid, hal, if_true]; exact h))
    · rcases h with h | h
      · rcases hdom' b h with h | h
        · exact .inr (.inr (by simp only [avoid, hal]; exact hdlt b (.inl h)))
        · exact .inr (.inl h)
      · exact .inr (.inr (by simp only [avoid, hal]; exact hdlt b (.inr h)))
  -- what the updates say
  have hlook : ∀ q, look ((os.map (·.1)).zip (R.muts.map some) ++ ((List.range R.new.length).map (nx + ·)).zip (R.new.map some)) q =
      (look ((os.map (·.1)).zip (R.muts.map some)) q).or (look (((List.range R.new.length).map (nx + ·)).zip (R.new.map some)) q) := fun q => look_append _ _ q
  have hnd2 : ((List.range R.new.length).map (nx + ·)).Nodup := by
    rw [← List.range'_eq_map_range]; exact List.nodup_range'
  have hcase : ∀ q, (∃ (i : Nat) (p : Nat × Own), os[i]? = some p ∧ p.1 = q ∧ ∃ m, R.muts[i]? = some m ∧ applyUps ((os.map (·.1)).zip (R.muts.map some) ++ ((List.range R.new.length).map (nx + ·)).zip (R.new.map some)) H q = some m) ∨
      (q ∉ os.map (·.1) ∧ ∃ i, i < ns.length ∧ q = nx + i ∧ ∃ m, R.new[i]? = some m ∧ applyUps ((os.map (·.1)).zip (R.muts.map some) ++ ((List.range R.new.length).map (nx + ·)).zip (R.new.map some)) H q = some m) ∨
      (q ∉ os.map (·.1) ∧ ¬ (nx ≤ q ∧ q < nx + ns.length) ∧ applyUps ((os.map (·.1)).zip (R.muts.map some) ++ ((List.range R.new.length).map (nx + ·)).zip (R.new.map some)) H q = H q) := by
    intro q
    by_cases h1 : q ∈ os.map (·.1)
    · left
      obtain ⟨i, hi⟩ := List.getElem?_of_mem h1
      have hi0 := hi
      rw [List.getElem?_map, Option.map_eq_some_iff] at hi
      obtain ⟨p, hp, hpq⟩ := hi
      have hil : i < os.length := (List.getElem?_eq_some_iff.1 hp).1
      have hm : R.muts[i]? = some (R.muts[i]'(by omega)) := List.getElem?_eq_getElem (by omega)
      refine ⟨i, p, hp, hpq, _, hm, ?_⟩
      simp only [applyUps, hlook]
      rw [look_zip_some _ _ i q (some (R.muts[i]'(by omega))) hnd hi0 (by rw [List.getElem?_map, hm]; rfl), Option.some_or]
    · right
      have hn1 := look_zip_none (os.map (·.1)) (R.muts.map some) q h1
      by_cases h2 : nx ≤ q ∧ q < nx + ns.length
      · left
        refine ⟨h1, q - nx, by omega, by omega, ?_⟩
        have hil : q - nx < R.new.length := by omega
        have hm : R.new[q - nx]? = some (R.new[q - nx]'hil) := List.getElem?_eq_getElem hil
        refine ⟨_, hm, ?_⟩
        simp only [applyUps, hlook, hn1, Option.none_or]
        rw [look_zip_some _ _ (q - nx) q (some (R.new[q - nx]'hil)) hnd2 (by simp [hil]; omega) (by rw [List.getElem?_map, hm]; rfl)]
      · right
        refine ⟨h1, h2, ?_⟩
        have hn2 := look_zip_none ((List.range R.new.length).map (nx + ·)) (R.new.map some) q (fun h => by
          obtain ⟨i, hi, rfl⟩ := List.mem_map.1 h
          have := List.mem_range.1 hi
          omega)
        simp only [applyUps, hlook, hn1, hn2, Option.none_or]
  have hFits : Fits E fr (applyUps ((os.map (·.1)).zip (R.muts.map some) ++ ((List.range R.new.length).map (nx + ·)).zip (R.new.map some)) H) (fun r => Kn r ∨ (nx ≤ r ∧ r < nx + R.new.length)) σ' a w' := by
    refine F.world (fun k => inB ss k) hindom hmv.block hmv.size hmv.os hmv.tape ⟨hmv.output, hmv.drawn⟩ (fun q hq => .inl (sold q hq)) (fun _ h => .inl h) ?_ ?_ ?_ ?_ ?_ ?_
    · intro b h
      rcases hdom' b h with h | h
      · exact .inl h
      · exact .inr (hnsb b h).1
    · intro q o' ho'
      rcases hcase q with ⟨i, p, hp, rfl, m, hm, he⟩ | ⟨h1, i, hi, rfl, m, hm, he⟩ | ⟨h1, h2, he⟩
      · rw [he] at ho'; cases ho'
        right
        obtain ⟨s, bs, h3, h4, h5, _⟩ := lent_get F hos0 i p hp
        refine ⟨s, bs, by rw [sold _ h5]; exact h3, fun σ'' _ => ?_⟩
        obtain ⟨s', h6, h7⟩ := OwnsRel.get i o' hmuts hm
        rw [show ss[i]? = _ from h4] at h6; cases h6
        have hcl' : cleanO o' = true := List.all_eq_true.1 hmcl o' (List.mem_of_getElem? hm)
        by_cases hal : C.al = true
        · exact OwnRel.clean noSig σ'' hcl' (OwnRel.stab (dom_weak (hDmut hal) (fun _ => .inl rfl)) (fun _ _ => rfl) h7)
        · have hfl : flatO o' = true := by
            simp only [hal, Bool.false_or, Bool.not_eq_true] at halm
            exact List.all_eq_true.1 halm o' (List.mem_of_getElem? hm)
          exact flatO_D hfl h7
      · rw [he] at ho'; cases ho'
        right
        obtain ⟨s', h6, h7⟩ := OwnsRel.get i o' hnews hm
        have hcl' : cleanO o' = true := List.all_eq_true.1 hncl o' (List.mem_of_getElem? hm)
        exact ⟨s'.1, s'.2, by rw [snew i hi]; exact h6, fun σ'' _ => OwnRel.clean noSig σ'' hcl' (OwnRel.stab (dom_weak hDnew (fun _ => .inl rfl)) (fun _ _ => rfl) h7)⟩
      · rw [he] at ho'
        left
        refine ⟨F.kn ho', ho', sold q (F.kn ho'), fun s bs h3 b hb => hother q s bs h3 h1 b hb⟩
    · intro q hq
      rcases hcase q with ⟨i, p, hp, rfl, m, hm, he⟩ | ⟨h1, i, hi, rfl, m, hm, he⟩ | ⟨h1, h2, he⟩
      · rw [he] at hq; cases hq
      · rw [he] at hq; cases hq
      · rw [he] at hq
        simp only [σ']; rw [if_neg h2]; exact F.gone q hq
    · intro q hq
      rcases hcase q with ⟨i, p, hp, rfl, m, hm, he⟩ | ⟨h1, i, hi, rfl, m, hm, he⟩ | ⟨h1, h2, he⟩
      · obtain ⟨_, _, _, _, h5, _⟩ := lent_get F hos0 i p hp
        exact absurd (.inl h5) hq
      · exact absurd (.inr ⟨by omega, by omega⟩) hq
      · rw [he]; exact F.known q fun h => hq (.inl h)
    · intro q s bs h b hb
      simp only [σ'] at h
      split at h
      · have h1 : inB ns b := ⟨(s, bs), List.mem_of_getElem? h, hb⟩
        exact ⟨(hnsb b h1).2, .inl (Nat.le_trans F.size (hnsb b h1).1)⟩
      · exact ⟨Nat.lt_of_lt_of_le (F.lt q s bs h b hb).1 hmv.size, (F.lt q s bs h b hb).2⟩
    · intro q q' s1 bs1 s2 bs2 h1 h2 hne b hb1 hb2
      simp only [σ'] at h1 h2
      split at h1 <;> split at h2
      · rename_i c1 c2
        exact hnsap (q - nx) (q' - nx) (s1, bs1) (s2, bs2) h1 h2 (by omega) b hb1 hb2
      · have h3 := (hnsb b ⟨(s1, bs1), List.mem_of_getElem? h1, hb1⟩).1
        have h4 := (F.lt q' s2 bs2 h2 b hb2).1
        omega
      · have h3 := (hnsb b ⟨(s2, bs2), List.mem_of_getElem? h2, hb2⟩).1
        have h4 := (F.lt q s1 bs1 h1 b hb1).1
        omega
      · exact F.disj q q' s1 bs1 s2 bs2 h1 h2 hne b hb1 hb2
  refine hK v w' σ' hFits (fun σ'' h'' => ?_)
  refine RelV.ren (n := R.new.length) (σ1 := newSig ns) ?_ R.res v hbnd (RelV.stab (dom_weak hDnew (fun _ => .inl rfl)) _ v hres)
  intro r hr s hs
  have := h'' (nx + r) (.inr ⟨by omega, by omega⟩)
  rw [this, snew r (by omega)] at hs
  exact hs

theorem step_call (F : Fits E fr H Kn σ a w) {c : Call} {f : Operand} {g : FuncId} {caps ys as : List AV} {os : List (Nat × Own)} {sn : List Nat} {C : Ctr} {R : CRes} (hM : Meets E.P g C) (ho : o.op = .call c) (hc : c.callee = .value f)
    (hf : Knows E Kn σ w (.clo g caps) (a.eval f)) (hys : KnowsL E Kn σ w ys (c.args.toList.map a.eval)) (hconv : conv C.al H C.modes (ys ++ caps) = some (as, os, sn)) (hrun : C.run as (os.map (·.2)) = some R) (hok : callOK C os sn R = true) (hpre : R.pre)
    (hnx : ∀ i, i < R.new.length → ¬ Kn (nx + i)) {vc : Prop} :
    Step E fr H Kn a w o nx ⟨renV (fun i => nx + i) R.res, (os.map (·.1)).zip (R.muts.map some) ++ ((List.range R.new.length).map (nx + ·)).zip (R.new.map some), R.new.length, vc⟩ := by
  intro K Q hK
  simp only [callOK, Bool.and_eq_true, decide_eq_true_eq] at hok
  obtain ⟨⟨⟨⟨⟨⟨⟨⟨hnd, hsnok⟩, hncl⟩, hmcl⟩, hml⟩, halm⟩, hals⟩, hocl⟩, hbnd⟩ := hok
  refine step_callR (nx := nx) F (pre := R.pre) (S := fun R' => R' = R) hM.1 hM.2.1 ho hc hf hys hconv (by simp only [runR, hrun, Option.map_some]) (by simp only [callOK0, Bool.and_eq_true, decide_eq_true_eq]; exact ⟨⟨⟨hnd, hsnok⟩, hals⟩, hocl⟩) hpre K Q ?_
  rintro R' rfl
  exact ⟨by simp only [callOK1, Bool.and_eq_true, decide_eq_true_eq]; exact ⟨⟨⟨⟨hncl, hmcl⟩, hml⟩, halm⟩, hbnd⟩, hnx, hK⟩

end
end Go.Proofs.Ytpiaeckkjdcifaa
