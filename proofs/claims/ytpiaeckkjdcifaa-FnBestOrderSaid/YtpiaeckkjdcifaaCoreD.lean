/- The core of the method, part D: one operation is sound (addresses, slices, lengths). No condition. -/
import Derived.Test.YtpiaeckkjdcifaaCoreC
namespace Go.Proofs.Ytpiaeckkjdcifaa
set_option linter.unusedVariables false
set_option linter.unusedSimpArgs false
open Go

section
variable {E : Env} {fr : Nat → Option AV} {H : Nat → Option Own} {Kn : Nat → Prop} {σ : Sig} {a : Act} {w : World} {o : Oper} {nx : Nat}

theorem run_indexAt_slice {P : Program} {t e : TypeId} {ie : TypeInfo} (ht : P.underlying t = some (.slice e)) (he : P.info? e = some ie) (w : World) (b off n cap : Nat) (k : IntKind) (i : Int) (h0 : 0 ≤ i) (h1 : i < (n : Int)) :
    (Instr.indexAt t (.slice (some ⟨b, off, none⟩) n cap) (.int k i)).run P w = .ok (.pointer (some ⟨b, off + i.toNat * ie.size, none⟩)) w := by
  have hc : 0 ≤ i ∧ i < (n : Int) := ⟨h0, h1⟩
  simp [Instr.indexAt, asIntOf, run_underlying ht, hc, Go.sizeOf, typeInfo, he, add_lit]

theorem TyOK.slice {P : Program} {t : TypeId} {d : TD} (h : TyOK P t d) {e : TypeId} {τ : FT} (hk : d.kd = .sl e τ) : P.underlying t = some (.slice e) ∧ ∃ ie, P.info? e = some ie ∧ ie.zero = some τ.zeroV ∧ ie.size = τ.size ∧ ie.bytes = τ.bytes := by
  have h3 := h.2.2; simp only [hk] at h3; exact ⟨h3.1, infoOf_some h3.2⟩
theorem TyOK.slicer {P : Program} {t : TypeId} {d : TD} (h : TyOK P t d) {e : TypeId} (hk : d.kd = .slr e) : P.underlying t = some (.slice e) ∧ ∃ ie, P.info? e = some ie ∧ ie.zero = some (.slice none 0 0) ∧ ie.size = 1 ∧ ie.bytes = 24 := by
  have h3 := h.2.2; simp only [hk] at h3; exact ⟨h3.1, infoOf_some h3.2⟩

theorem avs_ne (τ : FT) (x : τ.T) : τ.avs x ≠ [] := by cases τ <;> simp [FT.avs]

theorem run_ok_value {s : Sem Value} {P : Program} {v : Value} {w w' : World} (h : s.run P w = .ok v w') : (do pure (Next.value (← s)) : Sem Next).run P w = .ok (.value v) w' := by
  rw [Sem.run_bind, h]; rfl

theorem good_idx_rs (F : Fits E fr H Kn σ a w) {t e : TypeId} {d : TD} {τ : FT} (hT : TyOK E.P t d) (hk : d.kd = .sl e τ) {x y : Operand} {xs : List τ.T} {i : Int} (ho : o.op = .indexAddr t x y) (hx : Knows E Kn σ w (.rs τ xs) (a.eval x)) (hy : a.eval y = .int .i64 i)
    (h0 : 0 ≤ i) (h1 : i < (xs.length : Int)) {vc : Prop} : Good E fr H Kn a w o nx ⟨.rp (τ.avs (xs.getD i.toNat τ.dflt)), [], 0, vc⟩ := by
  obtain ⟨hu, ie, hi, _, hsz, _⟩ := hT.slice hk
  rcases hx.self with ⟨rfl, _⟩ | ⟨b, off, cap, hv, h2, h3, h4, h5⟩
  · simp at h1; omega
  · refine good_pure F (v := .pointer (some ⟨b, off + i.toNat * τ.size, none⟩)) ?_ (fun σ'' _ => ?_)
    · have := run_indexAt_slice hu hi w b off xs.length cap .i64 i h0 h1
      simp only [execOp, ho, hv, hy]
      rw [hsz] at this
      exact run_ok_value this
    · refine ⟨avs_ne _ _, b, _, τ.vals (xs.getD i.toNat τ.dflt), rfl, h4, fun k u hu' => ?_, RelL.avs τ _⟩
      have hk' : k < τ.size := by have := (List.getElem?_eq_some_iff.1 hu').1; rw [flat_len] at this; exact this
      have hlt : i.toNat < xs.length := by omega
      have := h5 (i.toNat * τ.size + k) u (by
        rw [flat_get τ xs i.toNat k _ hk' (List.getElem?_eq_getElem hlt)]
        simpa [List.getD, List.getElem?_eq_getElem hlt] using hu')
      rw [Nat.add_assoc]; exact this

theorem good_idx_rows (F : Fits E fr H Kn σ a w) {t e : TypeId} {d : TD} (hT : TyOK E.P t d) (hk : d.kd = .slr e) {x y : Operand} {xss : List (List Int)} {i : Int} (ho : o.op = .indexAddr t x y) (hx : Knows E Kn σ w (.rows xss) (a.eval x)) (hy : a.eval y = .int .i64 i)
    (h0 : 0 ≤ i) (h1 : i < (xss.length : Int)) {vc : Prop} : Good E fr H Kn a w o nx ⟨.rp [.rs .i64 (xss.getD i.toNat [])], [], 0, vc⟩ := by
  obtain ⟨hu, ie, hi, _, hsz, _⟩ := hT.slicer hk
  rcases hx.self with ⟨rfl, _⟩ | ⟨b, off, cap, us, hv, h2, h3, h4, h5, h6, h7⟩
  · simp at h1; omega
  · have hlt : i.toNat < us.length := by omega
    have hlt' : i.toNat < xss.length := by omega
    refine good_pure F (v := .pointer (some ⟨b, off + i.toNat * 1, none⟩)) ?_ (fun σ'' _ => ?_)
    · have := run_indexAt_slice hu hi w b off xss.length cap .i64 i h0 h1
      simp only [execOp, ho, hv, hy]
      rw [hsz] at this
      exact run_ok_value this
    · refine ⟨by simp, b, _, [us[i.toNat]'hlt], rfl, h4, fun k u hu' => ?_, ?_⟩
      · cases k with
        | zero =>
          simp only [List.getElem?_cons_zero, Option.some.injEq] at hu'; subst hu'
          have := h6 i.toNat _ (List.getElem?_eq_getElem hlt)
          simpa using this
        | succ k => simp at hu'
      · refine ⟨_, [], rfl, ?_, rfl⟩
        have := h7 i.toNat _ _ (List.getElem?_eq_getElem hlt) (List.getElem?_eq_getElem hlt')
        simpa [RelV, List.getD, List.getElem?_eq_getElem hlt'] using this

/-- An owned slice's address. -/
theorem good_idx_own (F : Fits E fr H Kn σ a w) {t e : TypeId} (hu : E.P.underlying t = some (.slice e)) {ie : TypeInfo} (hi : E.P.info? e = some ie) {x y : Operand} {r : Nat} {i : Int} (ho : o.op = .indexAddr t x y) (hx : Knows E Kn σ w (.sl r) (a.eval x)) (hy : a.eval y = .int .i64 i)
    {s : Value} {bs : List Nat} (hs : σ r = some (s, bs)) {e' : TypeId} {us : List Value} {m z : Nat} (hown : w.ownsRow 0 e' z s m us) (hz : ie.size = z) (h0 : 0 ≤ i) (h1 : i < (m : Int)) {vc : Prop} : Good E fr H Kn a w o nx ⟨.oe r z i 0, [], 0, vc⟩ := by
  have hv := hx.self s bs hs
  rcases hown.2 with ⟨h2, h3⟩ | ⟨g, cap, cur, h2, _, hg, hn, hm, hc, _⟩
  · omega
  · refine good_pure F (v := .pointer (some ⟨g, 0 + i.toNat * z, none⟩)) ?_ (fun σ'' h'' => ?_)
    · have := run_indexAt_slice hu hi w g 0 m cap .i64 i h0 h1
      simp only [execOp, ho, hv, hy, h2]
      rw [hz] at this
      exact run_ok_value this
    · intro s' bs' hs'
      have hKr : Kn r := Classical.byContradiction (fun hn => by rw [F.gone r (F.known r hn)] at hs; cases hs)
      rw [h'' r hKr, hs] at hs'; cases hs'
      exact ⟨g, m, cap, h2, by simp, h0, h1⟩

theorem flat_drop (τ : FT) (xs : List τ.T) (l : Nat) : (xs.drop l).flatMap τ.vals = (xs.flatMap τ.vals).drop (l * τ.size) := by
  induction l generalizing xs with
  | zero => simp
  | succ l ih =>
    cases xs with
    | nil => simp
    | cons x xs =>
      simp only [List.drop_succ_cons, List.flatMap_cons, ih]
      have e1 : List.drop ((l + 1) * τ.size) (τ.vals x) = [] := List.drop_eq_nil_of_le (by rw [flat_len, Nat.succ_mul]; omega)
      have e2 : (l + 1) * τ.size - τ.size = l * τ.size := by rw [Nat.succ_mul]; omega
      rw [List.drop_append, flat_len, e1, e2, List.nil_append]
theorem flat_take (τ : FT) (xs : List τ.T) (l : Nat) : (xs.take l).flatMap τ.vals = (xs.flatMap τ.vals).take (l * τ.size) := by
  induction l generalizing xs with
  | zero => simp
  | succ l ih =>
    cases xs with
    | nil => simp
    | cons x xs =>
      simp only [List.take_succ_cons, List.flatMap_cons, ih]
      have e1 : List.take ((l + 1) * τ.size) (τ.vals x) = τ.vals x := List.take_of_length_le (by rw [flat_len, Nat.succ_mul]; omega)
      have e2 : (l + 1) * τ.size - τ.size = l * τ.size := by rw [Nat.succ_mul]; omega
      rw [List.take_append, flat_len, e1, e2]

theorem run_slice_bounds {P : Program} (w : World) (n cap l h : Nat) (lo hi : Option Value) (hlo : (lo = none ∧ l = 0) ∨ lo = some (.int .i64 l)) (hhi : (hi = none ∧ h = n) ∨ hi = some (.int .i64 h)) (h1 : l ≤ h) (h2 : h ≤ cap) :
    (Instr.sliceBounds true n cap lo hi none).run P w = .ok (l, h, cap) w := by
  have b1 : ((l : Int) ≤ (h : Int)) := by omega
  have b2 : ((h : Int) ≤ (cap : Int)) := by omega
  rcases hlo with ⟨rfl, rfl⟩ | rfl <;> rcases hhi with ⟨rfl, rfl⟩ | rfl <;> simp [Instr.sliceBounds, Instr.sliceBound, asIntOf, h1, h2] <;> intros <;> omega

theorem run_slice_op {P : Program} {t e : TypeId} {ie : TypeInfo} (ht : P.underlying t = some (.slice e)) (he : P.info? e = some ie) (w : World) (ad : Option Addr) (n cap l h : Nat) (lo hi : Option Value) (hlo : (lo = none ∧ l = 0) ∨ lo = some (.int .i64 l)) (hhi : (hi = none ∧ h = n) ∨ hi = some (.int .i64 h))
    (h1 : l ≤ h) (h2 : h ≤ cap) : (Instr.sliceAt t (.slice ad n cap) lo hi none).run P w = .ok (.slice (if cap = l then ad else ad.map (·.add (l * ie.size))) (h - l) (cap - l)) w := by
  simp [Instr.sliceAt, Instr.slice, run_underlying ht, run_slice_bounds w n cap l h lo hi hlo hhi h1 h2, Go.sizeOf, typeInfo, he]

theorem ROflat.cut {D : Nat → Prop} {τ : FT} {xs : List τ.T} {ad : Option Addr} {n cap l h : Nat} (hr : ROflat w D τ xs (.slice ad n cap)) (h1 : l ≤ h) (h2 : h ≤ xs.length) :
    n = xs.length ∧ (n ≤ cap ∨ n = 0) ∧ ROflat w D τ ((xs.take h).drop l) (.slice (if cap = l then ad else ad.map (·.add (l * τ.size))) (h - l) (cap - l)) := by
  rcases hr with ⟨rfl, a', c', hv⟩ | ⟨b, off, cap', hv, h3, h4, h5, h6⟩
  · simp only [Value.slice.injEq] at hv
    obtain ⟨rfl, rfl, rfl⟩ := hv
    simp at h2; subst h2
    have : l = 0 := by omega
    subst this
    exact ⟨rfl, .inr rfl, .inl ⟨by simp, _, _, rfl⟩⟩
  · simp only [Value.slice.injEq] at hv
    obtain ⟨rfl, rfl, rfl⟩ := hv
    refine ⟨rfl, .inl h3, ?_⟩
    by_cases he : l = h
    · subst he
      exact .inl ⟨List.drop_eq_nil_of_le (by simp; omega), _, cap - l, by rw [Nat.sub_self]⟩
    · have hne : cap ≠ l := by omega
      refine .inr ⟨b, off + l * τ.size, cap - l, ?_, by simp; omega, by omega, h5, fun i u hu => ?_⟩
      · simp only [hne, ↓reduceIte, Option.map_some, add_lit]
        congr 1
        simp; omega
      · rw [flat_drop, flat_take] at hu
        rw [List.getElem?_drop, List.getElem?_take] at hu
        split at hu
        · have := h6 _ u hu
          rw [Nat.add_assoc]; exact this
        · cases hu

theorem good_slice_rs (F : Fits E fr H Kn σ a w) {t e : TypeId} {ie : TypeInfo} {τ : FT} (ht : E.P.underlying t = some (.slice e)) (he : E.P.info? e = some ie) (hsz : ie.size = τ.size) {x : Operand} {lo hi : Option Operand} {xs : List τ.T} {l h : Nat} (ho : o.op = .slice t x lo hi none)
    (hx : Knows E Kn σ w (.rs τ xs) (a.eval x)) (hlo : (lo = none ∧ l = 0) ∨ lo.map a.eval = some (.int .i64 l)) (hhi : (hi = none ∧ h = xs.length) ∨ hi.map a.eval = some (.int .i64 h)) (h1 : l ≤ h) (h2 : h ≤ xs.length) {vc : Prop} {ys : List τ.T} (hys : ys = (xs.take h).drop l) :
    Good E fr H Kn a w o nx ⟨.rs τ ys, [], 0, vc⟩ := by
  have hself := hx.self
  have hform : ∃ ad cap, a.eval x = .slice ad xs.length cap ∧ (xs.length ≤ cap ∨ xs.length = 0) := by
    rcases hself with ⟨rfl, a', c', hv⟩ | ⟨b, off, cap, hv, h3, _⟩
    · exact ⟨a', c', hv, .inr rfl⟩
    · exact ⟨_, cap, hv, .inl h3⟩
  obtain ⟨ad, cap, hv, hcap⟩ := hform
  subst hys
  refine good_pure F (v := .slice (if cap = l then ad else ad.map (·.add (l * τ.size))) (h - l) (cap - l)) ?_ (fun σ'' h'' => ?_)
  · have := run_slice_op ht he w ad xs.length cap l h (lo.map a.eval) (hi.map a.eval) (hlo.imp (fun q => ⟨by simp [q.1], q.2⟩) id) (hhi.imp (fun q => ⟨by simp [q.1], q.2⟩) id) h1 (by omega)
    rw [hsz] at this
    simp only [execOp, ho, hv]
    exact run_ok_value this
  · have := hx σ'' h''
    rw [hv] at this
    exact (ROflat.cut this h1 h2).2.2

theorem ROrows.cut {D : Nat → Prop} {xss : List (List Int)} {ad : Option Addr} {n cap l h : Nat} (hr : ROrows w D xss (.slice ad n cap)) (h1 : l ≤ h) (h2 : h ≤ xss.length) :
    ROrows w D ((xss.take h).drop l) (.slice (if cap = l then ad else ad.map (·.add (l * 1))) (h - l) (cap - l)) := by
  rcases hr with ⟨rfl, a', c', hv⟩ | ⟨b, off, cap', us, hv, h3, h4, h5, h6, h7, h8⟩
  · simp only [Value.slice.injEq] at hv
    obtain ⟨rfl, rfl, rfl⟩ := hv
    simp at h2; subst h2
    have : l = 0 := by omega
    subst this
    exact .inl ⟨by simp, _, _, rfl⟩
  · simp only [Value.slice.injEq] at hv
    obtain ⟨rfl, rfl, rfl⟩ := hv
    by_cases he : l = h
    · subst he
      exact .inl ⟨List.drop_eq_nil_of_le (by simp; omega), _, cap - l, by rw [Nat.sub_self]⟩
    · have hne : cap ≠ l := by omega
      refine .inr ⟨b, off + l * 1, cap - l, (us.take h).drop l, ?_, by simp; omega, by omega, h5, by simp; omega, fun i u hu => ?_, fun i u xs hu hxs => ?_⟩
      · simp only [hne, ↓reduceIte, Option.map_some, add_lit]
        congr 1
        simp; omega
      · rw [List.getElem?_drop, List.getElem?_take] at hu
        split at hu
        · have := h7 _ u hu
          rw [Nat.mul_one, Nat.add_assoc]; exact this
        · cases hu
      · rw [List.getElem?_drop, List.getElem?_take] at hu hxs
        split at hu
        · rename_i hlt
          rw [if_pos hlt] at hxs
          exact h8 _ u xs hu hxs
        · cases hu

theorem good_slice_rows (F : Fits E fr H Kn σ a w) {t e : TypeId} {ie : TypeInfo} (ht : E.P.underlying t = some (.slice e)) (he : E.P.info? e = some ie) (hsz : ie.size = 1) {x : Operand} {lo hi : Option Operand} {xss : List (List Int)} {l h : Nat} (ho : o.op = .slice t x lo hi none)
    (hx : Knows E Kn σ w (.rows xss) (a.eval x)) (hlo : (lo = none ∧ l = 0) ∨ lo.map a.eval = some (.int .i64 l)) (hhi : (hi = none ∧ h = xss.length) ∨ hi.map a.eval = some (.int .i64 h)) (h1 : l ≤ h) (h2 : h ≤ xss.length) {vc : Prop} {ys : List (List Int)} (hys : ys = (xss.take h).drop l) :
    Good E fr H Kn a w o nx ⟨.rows ys, [], 0, vc⟩ := by
  have hself := hx.self
  have hform : ∃ ad cap, a.eval x = .slice ad xss.length cap ∧ (xss.length ≤ cap ∨ xss.length = 0) := by
    rcases hself with ⟨rfl, a', c', hv⟩ | ⟨b, off, cap, us, hv, h3, _⟩
    · exact ⟨a', c', hv, .inr rfl⟩
    · exact ⟨_, cap, hv, .inl h3⟩
  obtain ⟨ad, cap, hv, hcap⟩ := hform
  subst hys
  refine good_pure F (v := .slice (if cap = l then ad else ad.map (·.add (l * 1))) (h - l) (cap - l)) ?_ (fun σ'' h'' => ?_)
  · have := run_slice_op ht he w ad xss.length cap l h (lo.map a.eval) (hi.map a.eval) (hlo.imp (fun q => ⟨by simp [q.1], q.2⟩) id) (hhi.imp (fun q => ⟨by simp [q.1], q.2⟩) id) h1 (by omega)
    rw [hsz] at this
    simp only [execOp, ho, hv]
    exact run_ok_value this
  · have := hx σ'' h''
    rw [hv] at this
    exact ROrows.cut this h1 h2

theorem good_len (F : Fits E fr H Kn σ a w) {t e : TypeId} (ht : E.P.underlying t = some (.slice e)) {x : Operand} {n : Nat} {ad : Option Addr} {cap : Nat} {c : Call} (ho : o.op = .call c) (hc : c.callee = .builtin .len) (ha : c.args.toList = [x]) (hat : c.argTypes.toList = [t]) (hv : a.eval x = .slice ad n cap) :
    Good E fr H Kn a w o nx ⟨.int n, [], 0, True⟩ := by
  have h1 : c.args = #[x] := by rw [← Array.toArray_toList (xs := c.args), ha]
  have h2 : c.argTypes = #[t] := by rw [← Array.toArray_toList (xs := c.argTypes), hat]
  refine good_pure F (v := .int .i64 n) ?_ (fun _ _ => rfl)
  simp [execOp, ho, resolve, hc, h1, h2, invoke, builtin, hv, Builtin.len_, run_underlying ht, goInt]

theorem lenAV_sound (F : Fits E fr H Kn σ a w) {x : AV} {v : Value} {n : Int} (hx : RelV w (E.D σ) σ x v) (h : lenAV H x = some n) : ∃ ad m cap, v = .slice ad m cap ∧ n = (m : Int) := by
  unfold lenAV at h
  cases x <;> simp only [reduceCtorEq, Option.some.injEq] at h
  case nils => subst h; exact ⟨none, 0, 0, hx, rfl⟩
  case rs τ xs =>
    subst h
    rcases hx with ⟨rfl, a', c', hv⟩ | ⟨b, off, cap, hv, _⟩
    · exact ⟨a', 0, c', hv, rfl⟩
    · exact ⟨_, _, cap, hv, rfl⟩
  case rows xss =>
    subst h
    rcases hx with ⟨rfl, a', c', hv⟩ | ⟨b, off, cap, us, hv, _⟩
    · exact ⟨a', 0, c', hv, rfl⟩
    · exact ⟨_, _, cap, hv, rfl⟩
  case sl r =>
    have key : ∀ {e z : Nat} {s : Value} {m : Nat} {us : List Value}, w.ownsRow 0 e z s m us → ∃ ad cap, s = .slice ad m cap := by
      intro e z s m us hown
      rcases hown.2 with ⟨h1, h2⟩ | ⟨g, cap, cur, h1, _⟩
      · exact ⟨none, 0, by rw [h1, h2]⟩
      · exact ⟨_, cap, h1⟩
    split at h
    · rename_i e τ xs hH
      obtain ⟨s, bs, h1, h2⟩ := F.heap r _ hH
      obtain ⟨ad, cap, hs⟩ := key (h2 σ fun _ _ => rfl).1
      simp only [Option.some.injEq] at h; subst h
      exact ⟨ad, _, cap, (hx s bs h1).trans hs, rfl⟩
    · rename_i e xss hH
      obtain ⟨s, bs, h1, h2⟩ := F.heap r _ hH
      obtain ⟨us, hown, _⟩ := h2 σ fun _ _ => rfl
      obtain ⟨ad, cap, hs⟩ := key hown
      simp only [Option.some.injEq] at h; subst h
      exact ⟨ad, _, cap, (hx s bs h1).trans hs, rfl⟩
    · rename_i e e' xss hH
      obtain ⟨s, bs, h1, h2⟩ := F.heap r _ hH
      obtain ⟨us, bss, hown, _⟩ := h2 σ fun _ _ => rfl
      obtain ⟨ad, cap, hs⟩ := key hown
      simp only [Option.some.injEq] at h; subst h
      exact ⟨ad, _, cap, (hx s bs h1).trans hs, rfl⟩
    · cases h

end
end Go.Proofs.Ytpiaeckkjdcifaa
