/- The core of the method, part C: one operation is sound (all but calls of Go functions). No condition. -/
import Derived.Test.YtpiaeckkjdcifaaCoreB
namespace Go.Proofs.Ytpiaeckkjdcifaa
set_option linter.unusedVariables false
set_option linter.unusedSimpArgs false
open Go

/-- The operation runs, and what it leaves fits. -/
def Good (E : Env) (fr : Nat → Option AV) (H : Nat → Option Own) (Kn : Nat → Prop) (a : Act) (w : World) (o : Oper) (nx : Nat) (eff : Eff) : Prop :=
  ∃ v w' σ', ((execOp a.eval o).run E.P w = .ok (.value v) w' ∨ ((execOp a.eval o).run E.P w = .ok .skip w' ∧ v = undef)) ∧
    Fits E fr (applyUps eff.ups H) (fun r => Kn r ∨ (nx ≤ r ∧ r < nx + eff.news)) σ' a w' ∧
    ∀ σ'' : Sig, (∀ r, (Kn r ∨ (nx ≤ r ∧ r < nx + eff.news)) → σ'' r = σ' r) → RelV w' (E.D σ') σ'' eff.x v

theorem kn0 (Kn : Nat → Prop) (nx : Nat) : (fun r => Kn r ∨ (nx ≤ r ∧ r < nx + 0)) = Kn := by
  funext r; apply propext; constructor
  · rintro (h | h)
    · exact h
    · omega
  · exact .inl
theorem kn1 (Kn : Nat → Prop) (nx : Nat) : (fun r => Kn r ∨ (nx ≤ r ∧ r < nx + 1)) = (fun r => Kn r ∨ r = nx) := by
  funext r; apply propext; constructor
  · rintro (h | h)
    · exact .inl h
    · right; omega
  · rintro (h | h)
    · exact .inl h
    · right; omega
theorem ups0 (H : Nat → Option Own) : applyUps [] H = H := rfl
theorem ups1 (H : Nat → Option Own) (r : Nat) (x : Option Own) : applyUps [(r, x)] H = upd H r x := by
  funext n; simp only [applyUps, look, upd]; by_cases h : n = r <;> simp [h]

section
variable {E : Env} {fr : Nat → Option AV} {H : Nat → Option Own} {Kn : Nat → Prop} {σ : Sig} {a : Act} {w : World} {o : Oper} {nx : Nat}

/-- What is known of a value at a moment. -/
def Knows (E : Env) (Kn : Nat → Prop) (σ : Sig) (w : World) (x : AV) (v : Value) : Prop := ∀ σ'' : Sig, (∀ r, Kn r → σ'' r = σ r) → RelV w (E.D σ) σ'' x v
def KnowsL (E : Env) (Kn : Nat → Prop) (σ : Sig) (w : World) (x : List AV) (v : List Value) : Prop := ∀ σ'' : Sig, (∀ r, Kn r → σ'' r = σ r) → RelL w (E.D σ) σ'' x v
theorem Knows.self {x : AV} {v : Value} (h : Knows E Kn σ w x v) : RelV w (E.D σ) σ x v := h σ fun _ _ => rfl

theorem good_pure (F : Fits E fr H Kn σ a w) {v : Value} {x : AV} {vc : Prop} (hrun : (execOp a.eval o).run E.P w = .ok (.value v) w) (hx : Knows E Kn σ w x v) : Good E fr H Kn a w o nx ⟨x, [], 0, vc⟩ := by
  refine ⟨v, w, σ, .inl hrun, ?_, ?_⟩
  · simp only [ups0, kn0]; exact F
  · intro σ'' h; exact hx σ'' (fun r hr => h r (.inl hr))

theorem good_move (F : Fits E fr H Kn σ a w) {x : Operand} {y : AV} (ho : o.op = .move x ∨ o.op = .assign x) (hx : Knows E Kn σ w y (a.eval x)) : Good E fr H Kn a w o nx ⟨y, [], 0, True⟩ :=
  good_pure F (by rcases ho with ho | ho <;> simp [execOp, ho]) hx

theorem eqGuard_int (op : BinOp) (t : TypeId) (x y : Operand) (k k' : IntKind) (m n : Int) : (eqGuard op t x y (.int k m) (.int k' n)).run E.P w = .ok () w := by
  unfold eqGuard; split <;> simp
theorem eqGuard_bool (op : BinOp) (t : TypeId) (x y : Operand) (m n : Bool) : (eqGuard op t x y (.bool m) (.bool n)).run E.P w = .ok () w := by
  unfold eqGuard; split <;> simp

theorem wrap_in {n : Int} (h : inR n) : IntKind.i64.wrap n = n := by
  unfold inR at h; rw [IntKind.wrap_i64]; omega

theorem toNat_bv (n : Int) (h0 : 0 ≤ n) (h1 : inR n) : (BitVec.ofInt 64 n).toNat = n.toNat := by
  unfold inR at h1
  rw [BitVec.toNat_ofInt]
  have : n % ((2 ^ 64 : Nat) : Int) = n := Int.emod_eq_of_lt h0 (by simp; omega)
  rw [this]

theorem land_lt {a b n : Nat} (h : a < n) : a &&& b < n := Nat.lt_of_le_of_lt Nat.and_le_left h

theorem bits_i64 : IntKind.i64.bits = 64 := rfl

theorem good_bin (F : Fits E fr H Kn σ a w) {op : BinOp} {t t' : TypeId} {x y : Operand} {m n : Int} {z : AV} {vc : Prop} (ho : o.op = .binOp op t x y t')
    (hx : a.eval x = .int .i64 m) (hy : a.eval y = .int .i64 n) (hb : binAV op (.int m) (.int n) = some (z, vc)) (hvc : vc) : Good E fr H Kn a w o nx ⟨z, [], 0, vc⟩ := by
  have hrun : ∀ v, (binOp op t (.int .i64 m) (.int .i64 n)).run E.P w = .ok v w → (execOp a.eval o).run E.P w = .ok (.value v) w := by
    intro v hv
    simp [execOp, ho, hx, hy, eqGuard_int, hv]
  have key : ∀ v, (binOp op t (.int .i64 m) (.int .i64 n)).run E.P w = .ok v w → (∀ σ'' : Sig, RelV w (E.D σ) σ'' z v) → Good E fr H Kn a w o nx ⟨z, [], 0, vc⟩ :=
    fun v h1 h2 => good_pure F (hrun v h1) (fun σ'' _ => h2 σ'')
  cases op <;> simp only [binAV, Option.some.injEq, Prod.mk.injEq, reduceCtorEq] at hb <;> obtain ⟨rfl, rfl⟩ := hb
  case add => exact key (.int .i64 (m + n)) (by simp [binOp, Op.intArith, wrap_in hvc]) (fun _ => rfl)
  case sub => exact key (.int .i64 (m - n)) (by simp [binOp, Op.intArith, wrap_in hvc]) (fun _ => rfl)
  case mul => exact key (.int .i64 (m * n)) (by simp [binOp, Op.intArith, wrap_in hvc]) (fun _ => rfl)
  case quo =>
    obtain ⟨h0, h1, h2⟩ := hvc
    refine key (.int .i64 (m / n)) ?_ (fun _ => rfl)
    have hn : n ≠ 0 := by omega
    have hle : m / n ≤ m := Int.ediv_le_self n h0
    have hge : 0 ≤ m / n := Int.ediv_nonneg h0 (by omega)
    have hw : IntKind.i64.wrap (m / n) = m / n := wrap_in (by unfold inR at h2 ⊢; omega)
    simp [binOp, Op.intDiv, hn, Int.tdiv_eq_ediv_of_nonneg h0, hw]
  case rem =>
    obtain ⟨h0, h1⟩ := hvc
    refine key (.int .i64 (m % n)) ?_ (fun _ => rfl)
    have hn : n ≠ 0 := by omega
    simp [binOp, Op.intDiv, hn, Int.tmod_eq_emod_of_nonneg h0]
  case and =>
    obtain ⟨h0, h1, h2, h3⟩ := hvc
    refine key (.int .i64 ((m.toNat &&& n.toNat : Nat) : Int)) ?_ (fun _ => rfl)
    have hw : IntKind.i64.wrap ((m.toNat &&& n.toNat : Nat) : Int) = ((m.toNat &&& n.toNat : Nat) : Int) := wrap_in (by
      have : m.toNat &&& n.toNat ≤ m.toNat := Nat.and_le_left
      unfold inR at *; omega)
    have hb : (BitVec.ofInt 64 m &&& BitVec.ofInt 64 n).toNat = m.toNat &&& n.toNat := by rw [BitVec.toNat_and, toNat_bv m h0 h2, toNat_bv n h1 h3]
    simp only [binOp, Op.intBits, ne_eq, not_true_eq_false, ↓reduceIte, Sem.run_pure, Result.ok.injEq, Value.int.injEq, true_and, and_true]
    exact (congrArg (fun q : Nat => IntKind.i64.wrap (q : Int)) hb).trans hw
  case or =>
    obtain ⟨h0, h1, h2, h3⟩ := hvc
    refine key (.int .i64 ((m.toNat ||| n.toNat : Nat) : Int)) ?_ (fun _ => rfl)
    have hw : IntKind.i64.wrap ((m.toNat ||| n.toNat : Nat) : Int) = ((m.toNat ||| n.toNat : Nat) : Int) := wrap_in (by
      unfold inR at *
      have : m.toNat ||| n.toNat < 2 ^ 63 := Nat.or_lt_two_pow (by omega) (by omega)
      omega)
    have hb : (BitVec.ofInt 64 m ||| BitVec.ofInt 64 n).toNat = m.toNat ||| n.toNat := by rw [BitVec.toNat_or, toNat_bv m h0 h2, toNat_bv n h1 h3]
    simp only [binOp, Op.intBits, ne_eq, not_true_eq_false, ↓reduceIte, Sem.run_pure, Result.ok.injEq, Value.int.injEq, true_and, and_true]
    exact (congrArg (fun q : Nat => IntKind.i64.wrap (q : Int)) hb).trans hw
  case xor =>
    obtain ⟨h0, h1, h2, h3⟩ := hvc
    refine key (.int .i64 ((m.toNat ^^^ n.toNat : Nat) : Int)) ?_ (fun _ => rfl)
    have hw : IntKind.i64.wrap ((m.toNat ^^^ n.toNat : Nat) : Int) = ((m.toNat ^^^ n.toNat : Nat) : Int) := wrap_in (by
      unfold inR at *
      have : m.toNat ^^^ n.toNat < 2 ^ 63 := Nat.xor_lt_two_pow (by omega) (by omega)
      omega)
    have hb : (BitVec.ofInt 64 m ^^^ BitVec.ofInt 64 n).toNat = m.toNat ^^^ n.toNat := by rw [BitVec.toNat_xor, toNat_bv m h0 h2, toNat_bv n h1 h3]
    simp only [binOp, Op.intBits, ne_eq, not_true_eq_false, ↓reduceIte, Sem.run_pure, Result.ok.injEq, Value.int.injEq, true_and, and_true]
    exact (congrArg (fun q : Nat => IntKind.i64.wrap (q : Int)) hb).trans hw
  case shl =>
    obtain ⟨h0, h1, h2⟩ := hvc
    refine key (.int .i64 (m * 2 ^ n.toNat)) ?_ (fun _ => rfl)
    have hm : min n.toNat 64 = n.toNat := by omega
    have hn : ¬ n < 0 := by omega
    simp [binOp, Op.shift, bits_i64, hn, hm, wrap_in h2]
  case shr =>
    obtain ⟨h0, h1⟩ := hvc
    refine key (.int .i64 (m / 2 ^ n.toNat)) ?_ (fun _ => rfl)
    have hm : min n.toNat 64 = n.toNat := by omega
    have hn : ¬ n < 0 := by omega
    have hp : (0 : Int) ≤ 2 ^ n.toNat := Int.le_of_lt (Int.pow_pos (by omega))
    simp [binOp, Op.shift, bits_i64, hn, hm, Int.fdiv_eq_ediv_of_nonneg _ hp]
  case eql => exact key (.bool (m == n)) (by simp [binOp, Op.intCmp]) (fun _ => by simp [RelV, BEq.beq])
  case neq => exact key (.bool (m != n)) (by simp [binOp, Op.intCmp]) (fun _ => by simp only [RelV]; congr 1; simp [bne, BEq.beq])
  case lss => exact key (.bool (decide (m < n))) (by simp [binOp, Op.intCmp]) (fun _ => rfl)
  case leq => exact key (.bool (decide (m ≤ n))) (by simp [binOp, Op.intCmp]) (fun _ => rfl)
  case gtr => exact key (.bool (decide (n < m))) (by simp [binOp, Op.intCmp]) (fun _ => rfl)
  case geq => exact key (.bool (decide (n ≤ m))) (by simp [binOp, Op.intCmp]) (fun _ => rfl)

theorem good_binb (F : Fits E fr H Kn σ a w) {op : BinOp} {t t' : TypeId} {x y : Operand} {m n : Bool} {z : AV} {vc : Prop} (ho : o.op = .binOp op t x y t') (ht : E.P.underlying t = some .bool)
    (hx : a.eval x = .bool m) (hy : a.eval y = .bool n) (hb : binAV op (.bool m) (.bool n) = some (z, vc)) : Good E fr H Kn a w o nx ⟨z, [], 0, vc⟩ := by
  have heq : (Op.equal t (.bool m) (.bool n)).run E.P w = .ok (m == n) w := run_equal_bool (w := w) t m n ht
  cases op <;> simp only [binAV, Option.some.injEq, Prod.mk.injEq, reduceCtorEq] at hb <;> obtain ⟨rfl, rfl⟩ := hb
  case eql => exact good_pure F (v := .bool (m == n)) (by simp [execOp, ho, hx, hy, eqGuard_bool, binOp, heq]) (fun _ _ => rfl)
  case neq => exact good_pure F (v := .bool (!(m == n))) (by simp [execOp, ho, hx, hy, eqGuard_bool, binOp, heq]) (fun _ _ => rfl)

theorem good_not (F : Fits E fr H Kn σ a w) {t : TypeId} {x : Operand} {b : Bool} (ho : o.op = .unOp .not t x) (hx : Knows E Kn σ w (.bool b) (a.eval x)) : Good E fr H Kn a w o nx ⟨.bool (!b), [], 0, True⟩ := by
  have hv : a.eval x = .bool b := hx.self
  exact good_pure F (v := .bool (!b)) (by simp [execOp, ho, hv, Op.unary]) (fun _ _ => rfl)
theorem good_neg (F : Fits E fr H Kn σ a w) {t : TypeId} {x : Operand} {n : Int} (ho : o.op = .unOp .neg t x) (hx : Knows E Kn σ w (.int n) (a.eval x)) (hr : inR (-n)) : Good E fr H Kn a w o nx ⟨.int (-n), [], 0, inR (-n)⟩ := by
  have hv : a.eval x = .int .i64 n := hx.self
  refine good_pure F (v := .int .i64 (-n)) ?_ (fun _ _ => rfl)
  have e : (0 : Int) - n = -n := by omega
  simp [execOp, ho, hv, Op.unary, Op.intArith, e, wrap_in hr]

theorem good_conv (F : Fits E fr H Kn σ a w) {s t : TypeId} {x : Operand} {k : IntKind} {n : Int} (ho : o.op = .convert s t x) (ht : E.P.underlying t = some (.int .i64)) (hs : ∃ d, E.P.underlying s = some d)
    (hv : a.eval x = .int k n) (hr : inR n) : Good E fr H Kn a w o nx ⟨.int n, [], 0, inR n⟩ := by
  obtain ⟨d, hd⟩ := hs
  refine good_pure F (v := .int .i64 n) ?_ (fun _ _ => rfl)
  simp [execOp, ho, hv, convert, run_underlying ht, run_underlying hd, Conv.intToInt, wrap_in hr]

theorem good_nil_rp (F : Fits E fr H Kn σ a w) {x : Operand} {cs : List AV} (ho : o.op = .nilCheck x) (hx : Knows E Kn σ w (.rp cs) (a.eval x)) : Good E fr H Kn a w o nx ⟨.rp cs, [], 0, True⟩ := by
  obtain ⟨_, b, off, us, hv, _⟩ := hx.self
  exact good_pure F (v := a.eval x) (by simp [execOp, ho, hv]) hx
theorem good_nil_op (F : Fits E fr H Kn σ a w) {x : Operand} {r k : Nat} {vc : Prop} (ho : o.op = .nilCheck x) (hx : Knows E Kn σ w (.op r k) (a.eval x)) (hr : ∃ o, H r = some o) : Good E fr H Kn a w o nx ⟨.op r k, [], 0, vc⟩ := by
  obtain ⟨o', hr⟩ := hr
  obtain ⟨s, bs, h1, _⟩ := F.heap r o' hr
  obtain ⟨b, _, hv⟩ := hx.self s bs h1
  exact good_pure F (v := a.eval x) (by simp [execOp, ho, hv]) hx
theorem good_nil_clo (F : Fits E fr H Kn σ a w) {x : Operand} {f : FuncId} {cs : List AV} (ho : o.op = .nilCheck x) (hx : Knows E Kn σ w (.clo f cs) (a.eval x)) : Good E fr H Kn a w o nx ⟨.clo f cs, [], 0, True⟩ := by
  obtain ⟨us, hv, _⟩ := hx.self
  exact good_pure F (v := a.eval x) (by simp [execOp, ho, hv]) hx

theorem RelL.get {D : Nat → Prop} {σ' : Sig} : ∀ {xs : List AV} {vs : List Value} (k : Nat) (x : AV), RelL w D σ' xs vs → xs[k]? = some x → ∃ v, vs[k]? = some v ∧ RelV w D σ' x v
  | [], _, k, x, _, h => by simp at h
  | y :: ys, _, 0, x, ⟨v, vs', hv, hy, _⟩, h => by
    simp only [List.getElem?_cons_zero, Option.some.injEq] at h; subst h; subst hv
    exact ⟨v, rfl, hy⟩
  | y :: ys, _, k + 1, x, ⟨v, vs', hv, _, hl⟩, h => by
    subst hv
    simp only [List.getElem?_cons_succ] at h ⊢
    exact RelL.get k x hl h
theorem RelL.length {D : Nat → Prop} {σ' : Sig} : ∀ {xs : List AV} {vs : List Value}, RelL w D σ' xs vs → xs.length = vs.length
  | [], _, h => by have h : _ = [] := h; rw [h]; rfl
  | _ :: _, _, ⟨_, _, hv, _, hl⟩ => by rw [hv, List.length_cons, List.length_cons, RelL.length hl]

theorem good_extract (F : Fits E fr H Kn σ a w) {x : Operand} {i : Nat} {fs : List AV} {y : AV} (ho : o.op = .extract x i) (hx : Knows E Kn σ w (.tup fs) (a.eval x)) (hy : fs[i]? = some y) : Good E fr H Kn a w o nx ⟨y, [], 0, True⟩ := by
  obtain ⟨cs, hv, hl⟩ := hx.self
  obtain ⟨v, hv1, _⟩ := RelL.get i y hl hy
  refine good_pure F (v := v) ?_ ?_
  · simp [execOp, ho, hv, Instr.extract, hv1]
  · intro σ'' h''
    obtain ⟨cs', hv', hl'⟩ := hx σ'' h''
    rw [hv] at hv'
    simp only [Value.tuple.injEq] at hv'
    have : cs = cs' := by simpa using hv'
    subst this
    obtain ⟨v', hv2, hr⟩ := RelL.get i y hl' hy
    rw [hv1] at hv2; cases hv2; exact hr


theorem infoOf_some {P : Program} {t : TypeId} {z : Option Value} {n b : Nat} (h : infoOf P t = some (z, n, b)) : ∃ i, P.info? t = some i ∧ i.zero = z ∧ i.size = n ∧ i.bytes = b := by
  unfold infoOf at h
  cases hi : P.info? t with
  | none => simp [hi] at h
  | some i => simp only [hi, Option.map_some, Option.some.injEq, Prod.mk.injEq] at h; exact ⟨i, rfl, h.1, h.2.1, h.2.2⟩

theorem mapM_get {α β : Type} (f : α → Option β) : ∀ {xs : List α} {ys : List β}, xs.mapM f = some ys → xs.length = ys.length ∧ ∀ (k : Nat) (x : α), xs[k]? = some x → ∃ y, ys[k]? = some y ∧ f x = some y
  | [], ys, h => by simp at h; subst h; simp
  | x :: xs, ys, h => by
    simp only [List.mapM_cons, Option.bind_eq_bind, Option.pure_def] at h
    cases hx : f x with
    | none => simp [hx] at h
    | some y =>
      cases hr : xs.mapM f with
      | none => simp [hx, hr] at h
      | some ys' =>
        simp [hx, hr] at h
        subst h
        obtain ⟨h1, h2⟩ := mapM_get f hr
        refine ⟨by simp [h1], fun k z hz => ?_⟩
        cases k with
        | zero => simp at hz; subst hz; exact ⟨y, rfl, hx⟩
        | succ k => simp at hz; simpa using h2 k z hz

theorem str_fields {P : Program} {t : TypeId} {n : Nat} (h : structPlaces P t = some ((List.range n).map fun k => (k, 1, false))) :
    ∃ fs : Array Field, P.underlying t = some (.struct fs) ∧ fs.size = n ∧ ∀ (k : Nat) (f : Field), fs[k]? = some f → f.offset = k ∧ ∃ i u, P.info? f.type = some i ∧ i.size = 1 ∧ P.underlying f.type = some u ∧ aggT u = false := by
  unfold structPlaces at h
  split at h
  · rename_i fs hu
    obtain ⟨h1, h2⟩ := mapM_get _ h
    refine ⟨fs, hu, by simpa using h1, fun k f hk => ?_⟩
    obtain ⟨y, hy, hf⟩ := h2 k f (by simpa using hk)
    have hkn : k < n := by
      have := (Array.getElem?_eq_some_iff.1 hk).1
      have h3 : fs.size = n := by simpa using h1
      omega
    have hy' : y = (k, 1, false) := by simpa [hkn] using hy.symm
    subst hy'
    cases hi : P.info? f.type with
    | none => simp [hi] at hf
    | some i =>
      cases hu' : P.underlying f.type with
      | none => simp [hi, hu'] at hf
      | some u => simp [hi, hu'] at hf; exact ⟨hf.1, i, u, rfl, hf.2.1, rfl, hf.2.2⟩
  · cases h

theorem run_isAgg {P : Program} {t : TypeId} {u : TypeDesc} (h : P.underlying t = some u) (w : World) : (isAgg t).run P w = .ok (aggT u) w := by
  unfold isAgg; rw [Sem.run_bind, run_underlying h w]; cases u <;> rfl
theorem TyOK.agg {P : Program} {t : TypeId} {d : TD} (h : TyOK P t d) (w : World) : (isAgg t).run P w = .ok (isStr d) w := by
  obtain ⟨_, _, h3⟩ := h
  cases hk : d.kd <;> simp only [hk] at h3 <;> simp only [isStr, hk]
  case bool => exact run_isAgg h3 w
  case int k => exact run_isAgg h3 w
  case sl e τ => exact run_isAgg h3.1 w
  case slr e => exact run_isAgg h3.1 w
  case str => obtain ⟨fs, hu, _⟩ := str_fields h3; exact run_isAgg hu w
  case other =>
    cases hu : P.underlying t with
    | none => simp [hu] at h3
    | some u => simp [hu] at h3; rw [run_isAgg hu w, h3]
theorem TyOK.sizeOf {P : Program} {t : TypeId} {d : TD} (h : TyOK P t d) (w : World) : (sizeOf t).run P w = .ok d.size w := by
  obtain ⟨i, hi, _, hs, _⟩ := infoOf_some h.1
  simp [Go.sizeOf, typeInfo, hi, hs]
theorem TyOK.und {P : Program} {t : TypeId} {d : TD} (h : TyOK P t d) : ∃ u, P.underlying t = some u := by
  obtain ⟨_, _, h3⟩ := h
  cases hk : d.kd <;> simp only [hk] at h3
  case str => obtain ⟨fs, hu, _⟩ := str_fields h3; exact ⟨_, hu⟩
  case other =>
    cases hu : P.underlying t with
    | none => simp [hu] at h3
    | some u => exact ⟨u, rfl⟩
  all_goals first | exact ⟨_, h3⟩ | exact ⟨_, h3.1⟩

theorem add_lit (b off k : Nat) : (⟨b, off, none⟩ : Addr).add k = ⟨b, off + k, none⟩ := by
  unfold Addr.add; split <;> simp_all

theorem run_loadVar_cells {P : Program} {t : TypeId} {d : TD} (h : TyOK P t d) (hs : isStr d = true) (w : World) (b off : Nat) (us : List Value) (hl : us.length = d.size)
    (hc : ∀ k u, us[k]? = some u → w.cell? ⟨b, off + k, none⟩ = some u) : (loadVar t ⟨b, off, none⟩).run P w = .ok (.agg us.toArray) w := by
  have h1 : (loadCells ⟨b, off, none⟩ us.length).run P w = .ok us.toArray w := run_loadCells_list w ⟨b, off, none⟩ us (fun j v hv => by rw [add_lit]; exact hc j v hv)
  rw [hl] at h1
  simp [loadVar, h.agg w, hs, h.sizeOf w, h1]
theorem run_loadVar_one {P : Program} {t : TypeId} {d : TD} (h : TyOK P t d) (hs : isStr d = false) (w : World) (a : Addr) (u : Value) (hc : w.cell? a = some u) : (loadVar t a).run P w = .ok u w := by
  simp [loadVar, h.agg w, hs, hc]

theorem good_load_rp (F : Fits E fr H Kn σ a w) {t : TypeId} {d : TD} (hT : TyOK E.P t d) {x : Operand} {cs : List AV} (ho : o.op = .load t x) (hx : Knows E Kn σ w (.rp cs) (a.eval x)) (hs : isStr d = true) (hl : cs.length = d.size) :
    Good E fr H Kn a w o nx ⟨.agg cs, [], 0, True⟩ := by
  obtain ⟨_, b, off, us, hv, hD, hc, hr⟩ := hx.self
  refine good_pure F (v := .agg us.toArray) ?_ ?_
  · simp [execOp, ho, hv, Instr.loadAt, Instr.sureAddr, run_loadVar_cells hT hs w b off us (by rw [← hr.length, hl]) hc]
  · intro σ'' h''
    obtain ⟨_, b', off', us', hv', hD', hc', hr'⟩ := hx σ'' h''
    rw [hv] at hv'; simp only [Value.pointer.injEq, Option.some.injEq, Addr.mk.injEq, and_true] at hv'
    obtain ⟨rfl, rfl⟩ := hv'
    have : us = us' := by
      apply List.ext_getElem?
      intro k
      have e1 := hr.length; have e2 := hr'.length
      by_cases hk : k < us.length
      · have h1 := hc k _ (List.getElem?_eq_getElem hk)
        have h2 := hc' k _ (List.getElem?_eq_getElem (by omega : k < us'.length))
        rw [h1] at h2; rw [List.getElem?_eq_getElem hk, List.getElem?_eq_getElem (by omega : k < us'.length)]; exact h2
      · rw [List.getElem?_eq_none (by omega), List.getElem?_eq_none (by omega)]
    subst this
    exact ⟨us, rfl, hr'⟩

theorem good_load_rp1 (F : Fits E fr H Kn σ a w) {t : TypeId} {d : TD} (hT : TyOK E.P t d) {x : Operand} {c : AV} {cs : List AV} (ho : o.op = .load t x) (hx : Knows E Kn σ w (.rp (c :: cs)) (a.eval x)) (hs : isStr d = false) :
    Good E fr H Kn a w o nx ⟨c, [], 0, True⟩ := by
  obtain ⟨_, b, off, us, hv, hD, hc, u, us', rfl, hu, _⟩ := hx.self
  have hc0 := hc 0 u rfl
  refine good_pure F (v := u) ?_ ?_
  · simp only [execOp, ho, hv, Instr.loadAt, Instr.sureAddr]
    have := run_loadVar_one hT hs w ⟨b, off, none⟩ u hc0
    simp [this]
  · intro σ'' h''
    obtain ⟨_, b', off', us2, hv', hD', hc', u2, us3, rfl, hu2, _⟩ := hx σ'' h''
    rw [hv] at hv'; simp only [Value.pointer.injEq, Option.some.injEq, Addr.mk.injEq, and_true] at hv'
    obtain ⟨rfl, rfl⟩ := hv'
    have h2 := hc' 0 u2 rfl
    rw [hc0] at h2; cases h2; exact hu2

theorem good_load_op (F : Fits E fr H Kn σ a w) {t : TypeId} {d : TD} (hT : TyOK E.P t d) {x : Operand} {r : Nat} {cs : List AV} (ho : o.op = .load t x) (hx : Knows E Kn σ w (.op r 0) (a.eval x)) (hH : H r = some (.var cs)) (hs : isStr d = true) (hl : cs.length = d.size) :
    Good E fr H Kn a w o nx ⟨.agg cs, [], 0, True⟩ := by
  obtain ⟨s, bs, h1, h2⟩ := F.heap r _ hH
  obtain ⟨b, hs', hv⟩ := hx.self s bs h1
  obtain ⟨b0, t0, cur, h3, h4, h5, h6, h7⟩ := h2 σ (fun _ _ => rfl)
  rw [hs'] at h3; simp only [Value.pointer.injEq, Option.some.injEq, Addr.mk.injEq, and_true] at h3; subst h3
  refine good_pure F (v := .agg cur) ?_ ?_
  · have := run_loadVar_cells hT hs w b 0 cur.toList (by rw [← h6.length, hl]) (fun k u hu => by rw [cell_of_row w b _ cur t0 (0, 0) h5]; simpa using hu)
    simp only [Array.toArray_toList] at this
    simp [execOp, ho, hv, Instr.loadAt, Instr.sureAddr, this]
  · intro σ'' h''
    obtain ⟨b1, t1, cur1, h31, h41, h51, h61, h71⟩ := h2 σ'' h''
    rw [hs'] at h31; simp only [Value.pointer.injEq, Option.some.injEq, Addr.mk.injEq, and_true] at h31; subst h31
    rw [h5] at h51; simp only [Option.some.injEq, Obj.cells.injEq, and_true] at h51; obtain ⟨rfl, rfl⟩ := h51
    exact ⟨cur.toList, by simp, h61⟩

theorem good_load_op1 (F : Fits E fr H Kn σ a w) {t : TypeId} {d : TD} (hT : TyOK E.P t d) {x : Operand} {r off : Nat} {cs : List AV} {c : AV} (ho : o.op = .load t x) (hx : Knows E Kn σ w (.op r off) (a.eval x)) (hH : H r = some (.var cs)) (hs : isStr d = false) (hc : cs[off]? = some c) :
    Good E fr H Kn a w o nx ⟨c, [], 0, True⟩ := by
  obtain ⟨s, bs, h1, h2⟩ := F.heap r _ hH
  obtain ⟨b, hs', hv⟩ := hx.self s bs h1
  obtain ⟨b0, t0, cur, h3, h4, h5, h6, h7⟩ := h2 σ (fun _ _ => rfl)
  rw [hs'] at h3; simp only [Value.pointer.injEq, Option.some.injEq, Addr.mk.injEq, and_true] at h3; subst h3
  obtain ⟨u, hu, _⟩ := RelL.get off c h6 hc
  refine good_pure F (v := u) ?_ ?_
  · have hcell : w.cell? ⟨b, off, none⟩ = some u := by rw [cell_of_row w b _ cur t0 (0, 0) h5]; simpa using hu
    have := run_loadVar_one hT hs w ⟨b, off, none⟩ u hcell
    simp [execOp, ho, hv, Instr.loadAt, Instr.sureAddr, this]
  · intro σ'' h''
    obtain ⟨b1, t1, cur1, h31, h41, h51, h61, h71⟩ := h2 σ'' h''
    rw [hs'] at h31; simp only [Value.pointer.injEq, Option.some.injEq, Addr.mk.injEq, and_true] at h31; subst h31
    rw [h5] at h51; simp only [Option.some.injEq, Obj.cells.injEq, and_true] at h51; obtain ⟨rfl, rfl⟩ := h51
    obtain ⟨u2, hu2, hr⟩ := RelL.get off c h61 hc
    rw [hu] at hu2; cases hu2; exact hr

theorem RelL.avs {D : Nat → Prop} {σ' : Sig} (τ : FT) (x : τ.T) : RelL w D σ' (τ.avs x) (τ.vals x) := by
  cases τ <;> simp [FT.avs, FT.vals, RelL, RelV]
theorem avs_len (τ : FT) (x : τ.T) : (τ.avs x).length = τ.size := by cases τ <;> rfl
theorem RelL.unique {D : Nat → Prop} {σ' : Sig} (τ : FT) (x : τ.T) {us : List Value} (h : RelL w D σ' (τ.avs x) us) : us = τ.vals x := by
  cases τ <;> simp only [FT.avs, FT.vals, RelL, RelV] at h ⊢
  · obtain ⟨v, vs, rfl, rfl, rfl⟩ := h; rfl
  · obtain ⟨v, vs, rfl, rfl, rfl⟩ := h; rfl
  · obtain ⟨v, vs, rfl, rfl, v1, vs1, rfl, rfl, v2, vs2, rfl, rfl, v3, vs3, rfl, rfl, v4, vs4, rfl, rfl, rfl⟩ := h; rfl
  · obtain ⟨v, vs, rfl, rfl, v1, vs1, rfl, rfl, rfl⟩ := h; rfl

/-- The cells of an element of an owned slice. -/
theorem own_cell {e : TypeId} {τ : FT} {xs : List τ.T} {s : Value} {b n cap : Nat} (h : w.ownsRow 0 e τ.size s xs.length (xs.flatMap τ.vals)) (hs : s = .slice (some ⟨b, 0, none⟩) n cap) (i k : Nat) (hi : i < xs.length) (hk : k < τ.size) :
    w.cell? ⟨b, i * τ.size + k, none⟩ = (τ.vals (xs.getD i τ.dflt))[k]? := by
  subst hs
  have hn : n = xs.length := by
    rcases h.2 with ⟨h1, h2⟩ | ⟨g, cap', cur, h1, _⟩
    · cases h1
    · simp only [Value.slice.injEq] at h1; exact h1.2.1
  subst hn
  rw [h.cellAt (i * τ.size + k) (by have := Nat.mul_le_mul_right τ.size (Nat.succ_le_of_lt hi); rw [Nat.succ_mul] at this; omega)]
  rw [flat_get τ xs i k _ hk (List.getElem?_eq_getElem hi)]
  simp [List.getD, List.getElem?_eq_getElem hi]

theorem own_len {e : TypeId} {z : Nat} {us : List Value} {s : Value} {m b n cap : Nat} (h : w.ownsRow 0 e z s m us) (hs : s = .slice (some ⟨b, 0, none⟩) n cap) : n = m := by
  subst hs
  rcases h.2 with ⟨h1, _⟩ | ⟨g, cap', cur, h1, _⟩
  · cases h1
  · simp only [Value.slice.injEq] at h1; exact h1.2.1

theorem good_load_oe (F : Fits E fr H Kn σ a w) {t : TypeId} {d : TD} (hT : TyOK E.P t d) {x : Operand} {r : Nat} {i : Int} {e : TypeId} {τ : FT} {xs : List τ.T} (ho : o.op = .load t x) (hx : Knows E Kn σ w (.oe r τ.size i 0) (a.eval x)) (hH : H r = some (.sl e τ xs)) (hs : isStr d = true) (hl : τ.size = d.size) :
    Good E fr H Kn a w o nx ⟨.agg (τ.avs (xs.getD i.toNat τ.dflt)), [], 0, True⟩ := by
  obtain ⟨s, bs, h1, h2⟩ := F.heap r _ hH
  obtain ⟨b, n, cap, hs', hv, hi0, hin⟩ := hx.self s bs h1
  obtain ⟨hown, _⟩ := h2 σ (fun _ _ => rfl)
  have hn := own_len hown hs'
  refine good_pure F (v := .agg (τ.vals (xs.getD i.toNat τ.dflt)).toArray) ?_ (fun σ'' _ => ⟨_, rfl, RelL.avs τ _⟩)
  have := run_loadVar_cells hT hs w b (i.toNat * τ.size + 0) (τ.vals (xs.getD i.toNat τ.dflt)) (by rw [flat_len, hl]) (fun k u hu => by
    rw [Nat.add_zero, own_cell hown hs' i.toNat k (by omega) (by have := (List.getElem?_eq_some_iff.1 hu).1; rw [flat_len] at this; exact this)]; exact hu)
  simp only [execOp, ho, hv, Instr.loadAt, Instr.sureAddr]
  simp only [Sem.run_bind, Sem.run_pure, Result.andThen_ok, this]

theorem good_load_oe1 (F : Fits E fr H Kn σ a w) {t : TypeId} {d : TD} (hT : TyOK E.P t d) {x : Operand} {r k : Nat} {i : Int} {e : TypeId} {τ : FT} {xs : List τ.T} {c : AV} (ho : o.op = .load t x) (hx : Knows E Kn σ w (.oe r τ.size i k) (a.eval x)) (hH : H r = some (.sl e τ xs)) (hs : isStr d = false)
    (hc : (τ.avs (xs.getD i.toNat τ.dflt))[k]? = some c) : Good E fr H Kn a w o nx ⟨c, [], 0, True⟩ := by
  obtain ⟨s, bs, h1, h2⟩ := F.heap r _ hH
  obtain ⟨b, n, cap, hs', hv, hi0, hin⟩ := hx.self s bs h1
  obtain ⟨hown, _⟩ := h2 σ (fun _ _ => rfl)
  have hn := own_len hown hs'
  have hk : k < τ.size := by have := (List.getElem?_eq_some_iff.1 hc).1; rw [avs_len] at this; exact this
  obtain ⟨u, hu, _⟩ := RelL.get (w := w) (D := E.D σ) (σ' := σ) k c (RelL.avs τ (xs.getD i.toNat τ.dflt)) hc
  refine good_pure F (v := u) ?_ ?_
  · have hcell : w.cell? ⟨b, i.toNat * τ.size + k, none⟩ = some u := by rw [own_cell hown hs' i.toNat k (by omega) hk]; exact hu
    have := run_loadVar_one hT hs w _ u hcell
    simp [execOp, ho, hv, Instr.loadAt, Instr.sureAddr, this]
  · intro σ'' h''
    obtain ⟨u2, hu2, hr⟩ := RelL.get (w := w) (D := E.D σ) (σ' := σ'') k c (RelL.avs τ (xs.getD i.toNat τ.dflt)) hc
    rw [hu] at hu2; cases hu2; exact hr

theorem good_load_oer (F : Fits E fr H Kn σ a w) {t : TypeId} {d : TD} (hT : TyOK E.P t d) {x : Operand} {r : Nat} {i : Int} {e : TypeId} {xss : List (List Int)} (ho : o.op = .load t x) (hx : Knows E Kn σ w (.oe r 1 i 0) (a.eval x)) (hH : H r = some (.rows e xss)) (hs : isStr d = false) :
    Good E fr H Kn a w o nx ⟨.rs .i64 (xss.getD i.toNat []), [], 0, True⟩ := by
  obtain ⟨s, bs, h1, h2⟩ := F.heap r _ hH
  obtain ⟨b, n, cap, hs', hv, hi0, hin⟩ := hx.self s bs h1
  obtain ⟨us, hown, _, _, hrow⟩ := h2 σ (fun _ _ => rfl)
  have hn := own_len hown hs'
  have hul : us.length = xss.length := by have := hown.1; simpa using this
  have hlt : i.toNat < us.length := by omega
  have hcell : w.cell? ⟨b, i.toNat * 1 + 0, none⟩ = some (us[i.toNat]'hlt) := by
    subst hs'
    subst hn
    have := hown.cellAt (i.toNat * 1 + 0) (by omega)
    rw [this]; simp [List.getElem?_eq_getElem hlt]
  refine good_pure F (v := us[i.toNat]'hlt) ?_ (fun σ'' _ => ?_)
  · have := run_loadVar_one hT hs w _ _ hcell
    simp only [execOp, ho, hv, Instr.loadAt, Instr.sureAddr]
    simp only [Sem.run_bind, Sem.run_pure, Result.andThen_ok, this]
  · have := hrow i.toNat _ _ (List.getElem?_eq_getElem hlt) (List.getElem?_eq_getElem (by omega : i.toNat < xss.length))
    simpa [RelV, List.getD, List.getElem?_eq_getElem (by omega : i.toNat < xss.length)] using this

end
end Go.Proofs.Ytpiaeckkjdcifaa
