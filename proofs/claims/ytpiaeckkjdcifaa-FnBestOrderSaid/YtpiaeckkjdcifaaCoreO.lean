/- The core of the method, part O: regions that draw their order. No condition. -/
import Derived.Test.YtpiaeckkjdcifaaCoreN
import Derived.Orders
namespace Go.Proofs.Ytpiaeckkjdcifaa
set_option linter.unusedVariables false
set_option linter.unusedSimpArgs false
open Go

mutual
/-- The names that a value leads to. -/
def refsV : AV → List Nat
  | .sl r => [r]
  | .op r _ => [r]
  | .oe r _ _ _ => [r]
  | .clo _ fs => refsL fs
  | .when _ x => refsV x
  | _ => []
def refsL : List AV → List Nat
  | [] => []
  | x :: xs => refsV x ++ refsL xs
end

section
variable {T : TypeId → Option TD} {Γ : FuncId → Option Ctr} {mb : List Nat} {H H' : Nat → Option Own} {nx : Nat} {o : Oper} {ev : Operand → Option AV}

theorem loadAV_H {d : TD} {x : AV} (h : ∀ r ∈ refsV x, H r = H' r) : loadAV H d x = loadAV H' d x := by
  cases x <;> simp only [loadAV] <;> simp only [refsV, List.mem_singleton, forall_eq] at h <;> rw [h]
theorem storeAV_H {d : TD} {x y : AV} (h : ∀ r ∈ refsV x, H r = H' r) (h2 : ∀ r ∈ refsV y, H r = H' r) : storeAV H d x y = storeAV H' d x y := by
  have hq : ∀ q, rowQ y = some q → H q = H' q := fun q hq => h2 q (by rw [rowQ_some hq]; simp [refsV])
  cases x <;> simp only [storeAV] <;> simp only [refsV, List.mem_singleton, forall_eq] at h
  · rw [h]
  · rw [h]
    cases hr : rowQ y with
    | none => rfl
    | some q => simp only [hq q hr]
theorem idxAV_H {d : TD} {x y : AV} (h : ∀ r ∈ refsV x, H r = H' r) : idxAV H d x y = idxAV H' d x y := by
  unfold idxAV
  cases y <;> simp only []
  cases d.kd <;> simp only [] <;> cases x <;> simp only [] <;> simp only [refsV, List.mem_singleton, forall_eq] at h <;> rw [h]
theorem lenAV_H {x : AV} (h : ∀ r ∈ refsV x, H r = H' r) : lenAV H x = lenAV H' x := by
  cases x <;> simp only [lenAV] <;> simp only [refsV, List.mem_singleton, forall_eq] at h <;> rw [h]
theorem srcFlat_H {τ : FT} {x : AV} (h : ∀ r ∈ refsV x, H r = H' r) : srcFlat H τ x = srcFlat H' τ x := by
  cases x <;> simp only [srcFlat] <;> simp only [refsV, List.mem_singleton, forall_eq] at h <;> rw [h]
theorem srcRows_H {x : AV} (h : ∀ r ∈ refsV x, H r = H' r) : srcRows H x = srcRows H' x := by
  cases x <;> simp only [srcRows] <;> simp only [refsV, List.mem_singleton, forall_eq] at h <;> rw [h]
theorem appAV_H {d : TD} {x y : AV} (h : ∀ r ∈ refsV x, H r = H' r) (h2 : ∀ r ∈ refsV y, H r = H' r) : appAV H nx d x y = appAV H' nx d x y := by
  unfold appAV
  cases d.kd <;> simp only []
  · rw [srcFlat_H h2]
    cases x <;> simp only [] <;> simp only [refsV, List.mem_singleton, forall_eq] at h <;> rw [h]
  · rw [srcRows_H h2]
    cases x <;> simp only [] <;> simp only [refsV, List.mem_singleton, forall_eq] at h <;> rw [h]
theorem conv_H (al : Bool) : ∀ (ms : List Md) (xs : List AV), (∀ r ∈ refsL xs, H r = H' r) → conv al H ms xs = conv al H' ms xs
  | [], [], _ => by simp [conv]
  | [], _ :: _, _ => by simp [conv]
  | md :: ms, [], _ => by cases md with | v k => cases k <;> simp [conv] | m => simp [conv]
  | md :: ms, x :: xs, h => by
    simp only [refsL, List.mem_append] at h
    have ih := conv_H al ms xs (fun r hr => h r (.inr hr))
    have hx : ∀ r ∈ refsV x, H r = H' r := fun r hr => h r (.inl hr)
    cases md with
    | v k =>
      cases k with
      | p => simp only [conv, ih]
      | r τ => cases x <;> simp only [conv, ih] <;> (simp only [refsV, List.mem_singleton, forall_eq] at hx) <;> rw [hx]
      | rr => cases x <;> simp only [conv, ih] <;> (simp only [refsV, List.mem_singleton, forall_eq] at hx) <;> rw [hx]
    | m =>
      cases x with
      | sl r => simp only [conv, ih]; simp only [refsV, List.mem_singleton, forall_eq] at hx; rw [hx]
      | op r k =>
        cases k with
        | zero => simp only [conv, ih]; simp only [refsV, List.mem_singleton, forall_eq] at hx; rw [hx]
        | succ k => simp only [conv]
      | _ => simp only [conv]

theorem refsL_append : ∀ (xs ys : List AV), refsL (xs ++ ys) = refsL xs ++ refsL ys
  | [], ys => rfl
  | x :: xs, ys => by simp [refsL, refsL_append xs ys]

theorem evL_refs : ∀ (xs : List Operand) (ys : List AV), evL ev xs = some ys → (∀ x ∈ xs, ∀ y, ev x = some y → ∀ r ∈ refsV y, H r = H' r) → ∀ r ∈ refsL ys, H r = H' r
  | [], ys, h, _, r, hr => by simp [evL] at h; subst h; simp [refsL] at hr
  | x :: xs, ys, h, hh, r, hr => by
    simp only [evL] at h
    split at h
    · rename_i y zs h1 h2
      cases h
      simp only [refsL, List.mem_append] at hr
      rcases hr with hr | hr
      · exact hh x (by simp) y h1 r hr
      · exact evL_refs xs zs h2 (fun x hx => hh x (by simp [hx])) r hr
    · cases h

theorem stepOp_H (h : ∀ x ∈ o.op.operands.toList, ∀ y, ev x = some y → ∀ r ∈ refsV y, H r = H' r) : stepOp T Γ mb ev H nx o = stepOp T Γ mb ev H' nx o := by
  cases hop : o.op <;> simp only [hop, Op.operands] at h <;> simp only [stepOp, hop]
  case nilCheck x =>
    cases hx : ev x with
    | none => rfl
    | some y =>
      have := h x (by simp) y hx
      cases y <;> simp only [] <;> (simp only [refsV, List.mem_singleton, forall_eq] at this) <;> rw [this]
  case fieldAddr t x k =>
    cases hx : ev x with
    | none => cases T t <;> rfl
    | some y =>
      have := h x (by simp) y hx
      cases y with
      | op r off => simp only [refsV, List.mem_singleton, forall_eq] at this; cases off <;> cases T t <;> first | rfl | simp only [this]
      | oe r z i off => simp only [refsV, List.mem_singleton, forall_eq] at this; cases off <;> cases T t <;> first | rfl | simp only [this]
      | _ => cases T t <;> rfl
  case load t x =>
    cases hx : ev x with
    | none => cases T t <;> rfl
    | some y => cases T t <;> try rfl
                simp only []; rw [loadAV_H (h x (by simp) y hx)]
  case store t x y =>
    cases hx : ev x with
    | none => cases T t <;> rfl
    | some u =>
      cases hy : ev y with
      | none => cases T t <;> rfl
      | some v =>
        cases T t <;> try rfl
        simp only []
        rw [storeAV_H (h x (by simp) u hx) (h y (by simp) v hy)]
  case indexAddr t x y =>
    cases hx : ev x with
    | none => cases T t <;> rfl
    | some u =>
      cases T t <;> cases ev y <;> try rfl
      simp only []
      rw [idxAV_H (h x (by simp) u hx)]
  case call c =>
    simp only [Call.operands] at h
    have hargs : ∀ x ∈ c.args.toList, ∀ y, ev x = some y → ∀ r ∈ refsV y, H r = H' r := fun x hx => h x (by simp at hx ⊢; exact .inr hx)
    cases hc : c.callee with
    | value f =>
      have hf : ∀ y, ev f = some y → ∀ r ∈ refsV y, H r = H' r := h f (by simp [hc])
      simp only []
      cases hef : ev f with
      | none => rfl
      | some y =>
        cases y <;> try rfl
        rename_i g caps
        cases hl : evL ev c.args.toList with
        | none => rfl
        | some ys =>
          cases hΓ : Γ g with
          | none => simp [hΓ]
          | some C =>
            simp only [hΓ]
            have hcv : conv C.al H C.modes (ys ++ caps) = conv C.al H' C.modes (ys ++ caps) := conv_H C.al C.modes (ys ++ caps) (fun r hr => by
              rw [refsL_append, List.mem_append] at hr
              rcases hr with hr | hr
              · exact evL_refs _ _ hl hargs r hr
              · exact hf _ hef r (by simpa only [refsV] using hr))
            rw [hcv]
    | invoke r m => rfl
    | builtin b =>
      cases b <;> simp only []
      case len =>
        split
        · rename_i x t ha hat
          cases hx : ev x with
          | none => rfl
          | some y => simp only [Option.bind_some]; rw [lenAV_H (hargs x (by rw [ha]; simp) y hx)]
        · rfl
      case append =>
        split
        · rename_i x y t t' ha hat
          cases hx : ev x with
          | none => simp
          | some u =>
            cases hy : ev y with
            | none => simp
            | some v =>
              cases T t <;> try simp only []
              rw [appAV_H (hargs x (by rw [ha]; simp) u hx) (hargs y (by rw [ha]; simp) v hy)]
        · rfl

/-- Does the operation look at what is owned? -/
def readsH : Op → Bool
  | .nilCheck _ | .fieldAddr _ _ _ | .load _ _ | .store _ _ _ | .indexAddr _ _ _ | .call _ => true
  | _ => false
theorem stepOp_noH (h : readsH o.op = false) : stepOp T Γ mb ev H nx o = stepOp T Γ mb ev H' nx o := by
  cases hop : o.op <;> simp only [hop, readsH, Bool.true_eq_false] at h <;> simp only [stepOp, hop]
theorem refs_strip (y : AV) : refsV (stripV y) = refsV y := by cases y <;> simp [stripV, refsV]

/-- What an operation looks at: slots. -/
def slotsOf (ops : List Oper) (o : Oper) : List Nat :=
  (o.op.operands.toList.filterMap fun | .tmp t => some t | _ => none) ++ (match o.guard with | some g => ((ops[g.1]?).bind (·.dst)).toList | none => [])
def refsAt (fr : Nat → Option AV) : List Nat → List Nat
  | [] => []
  | t :: l => (match fr t with | some x => refsV x | none => []) ++ refsAt fr l
theorem mem_refsAt {fr : Nat → Option AV} : ∀ (l : List Nat) (t : Nat) (x : AV) (r : Nat), t ∈ l → fr t = some x → r ∈ refsV x → r ∈ refsAt fr l
  | [], _, _, _, h, _, _ => by cases h
  | u :: l, t, x, r, h, h1, h2 => by
    simp only [refsAt, List.mem_append]
    rcases List.mem_cons.1 h with rfl | h
    · left; rw [h1]; exact h2
    · right; exact mem_refsAt l t x r h h1 h2

theorem stepG0_congr {ops : List Oper} {fr fr' : Nat → Option AV} (hf : ∀ t ∈ slotsOf ops o, fr' t = fr t) (hH : readsH o.op = true → ∀ r ∈ refsAt fr (slotsOf ops o), H r = H' r) : stepG0 T Γ mb ops fr' H' nx o = stepG0 T Γ mb ops fr H nx o := by
  have hev : ∀ x ∈ o.op.operands.toList, evA fr' x = evA fr x := by
    intro x hx
    cases x with
    | tmp t => exact hf t (by simp only [slotsOf, List.mem_append, List.mem_filterMap]; exact .inl ⟨_, hx, rfl⟩)
    | _ => rfl
  have href : readsH o.op = true → ∀ x ∈ o.op.operands.toList, ∀ y, evA fr x = some y → ∀ r ∈ refsV y, H r = H' r := by
    intro hrd x hx y hy r hr
    cases x with
    | tmp t => exact hH hrd r (mem_refsAt _ t y r (by simp only [slotsOf, List.mem_append, List.mem_filterMap]; exact .inl ⟨_, hx, rfl⟩) hy hr)
    | const v =>
      simp only [evA, Option.some.injEq] at hy; subst hy
      unfold ofVal at hr
      split at hr <;> simp [refsV] at hr
    | func f => simp only [evA, Option.some.injEq] at hy; subst hy; simp [refsV, refsL] at hr
    | global g => simp [evA] at hy
  have hs : stepOp T Γ mb (evA fr') H' nx o = stepOp T Γ mb (evA fr) H nx o := by
    rw [stepOp_ev (ev' := evA fr) hev]
    cases hrd : readsH o.op with
    | true => exact (stepOp_H (href hrd)).symm
    | false => exact (stepOp_noH hrd).symm
  have hs2 : stepOp T Γ mb (fun x => (evA fr' x).map stripV) H' nx o = stepOp T Γ mb (fun x => (evA fr x).map stripV) H nx o := by
    rw [stepOp_ev (ev' := fun x => (evA fr x).map stripV) (fun x hx => by simp only [hev x hx])]
    cases hrd : readsH o.op with
    | false => exact (stepOp_noH hrd).symm
    | true =>
    refine (stepOp_H (fun x hx y hy r hr => ?_)).symm
    simp only [Option.map_eq_some_iff] at hy
    obtain ⟨z, hz, rfl⟩ := hy
    rw [refs_strip] at hr
    exact href hrd x hx z hz r hr
  have hq : ∀ (xs : List Operand), (∀ x ∈ xs, evA fr' x = evA fr x) → opQ (evA fr') xs = opQ (evA fr) xs := by
    intro xs
    induction xs with
    | nil => intro _; rfl
    | cons x xs ih => intro h; simp only [opQ]; rw [h x (by simp), ih (fun y hy => h y (by simp [hy]))]
  have hpick : ∀ (c a b : Operand), o.op = .pick c a b → evA fr' c = evA fr c ∧ evA fr' a = evA fr a ∧ evA fr' b = evA fr b := by
    intro c a b e
    rw [e] at hev
    exact ⟨hev c (by simp [Op.operands]), hev a (by simp [Op.operands]), hev b (by simp [Op.operands])⟩
  unfold stepG0
  cases hg : o.guard with
  | none =>
    simp only []
    split
    · rename_i c a b e
      obtain ⟨e1, e2, e3⟩ := hpick c a b e
      rw [e1, e2, e3]
    · exact hs
  | some g =>
    have hgd : guardP fr' ops g = guardP fr ops g := by
      unfold guardP
      cases hd : (ops[g.1]?).bind (·.dst) with
      | none => rfl
      | some d => simp only []; rw [hf d (by simp [slotsOf, hg, hd])]
    simp only [hgd]
    cases guardP fr ops g with
    | none => rfl
    | some pc =>
      simp only []
      by_cases f1 : flagB mb 100000 o.dst = true
      · simp only [f1, if_true]
        rw [hs2]
        split
        · rfl
        · cases stepOp T Γ mb (fun x => (evA fr x).map stripV) H nx o with
          | none => rfl
          | some eff => simp only [hq _ hev]
      simp only [f1, Bool.false_eq_true, if_false]
      split
      · rfl
      split
      · rename_i c a b e
        obtain ⟨e1, e2, e3⟩ := hpick c a b e
        rw [e1, e2, e3]
      · rw [hs2]
        cases stepOp T Γ mb (fun x => (evA fr x).map stripV) H nx o with
        | none => rfl
        | some eff => simp only [hq _ hev]
theorem stepG_congr {ops : List Oper} {fr fr' : Nat → Option AV} (hf : ∀ t ∈ slotsOf ops o, fr' t = fr t) (hH : readsH o.op = true → ∀ r ∈ refsAt fr (slotsOf ops o), H r = H' r) : stepG T Γ mb ops fr' H' nx o = stepG T Γ mb ops fr H nx o := by
  unfold stepG; rw [stepG0_congr hf hH]
end
end Go.Proofs.Ytpiaeckkjdcifaa
