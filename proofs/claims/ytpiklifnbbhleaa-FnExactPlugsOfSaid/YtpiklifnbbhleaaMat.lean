/- Rows that own their rows: made, filled, marked. No condition. -/
import Derived.Test.YtpiklifnbbhleaaCoreR
namespace Go.Proofs.Ytpiklifnbbhleaa
set_option linter.unusedVariables false
set_option linter.unusedSimpArgs false
open Go

section
variable {E : Env} {st : AState}
theorem HOL.good {o : Oper} {eff : Eff} (hg : o.guard = none) (hd : dstOK E.nt o.dst = true)
    (h : ∀ (a : Act) (w : World) (σ : Sig), Fits E (look st.fr) (applyUps st.H noH) (fun q => q < st.nx) σ a w → Good E (look st.fr) (applyUps st.H noH) (fun q => q < st.nx) a w o st.nx eff) : HOL E [o] st (st.app o.dst eff) := by
  refine HOL.one hg fun a w F K Q' hK => ?_
  obtain ⟨σ, F⟩ := F
  have hdk : ∀ k, o.dst = some k → k < E.nt := fun k hk => by rw [hk] at hd; simpa [dstOK] using hd
  refine (h a w σ F).step K Q' fun v w' σ' hF hx => hK _ _ ⟨σ', ?_⟩
  have F' := hF.putD o.dst hdk eff.x v hx
  rw [← app_fr] at F'
  have e1 : (fun r => r < st.nx ∨ (st.nx ≤ r ∧ r < st.nx + eff.news)) = (fun r => r < (st.app o.dst eff).nx) := by
    funext r; apply propext; simp only [AState.app]; omega
  have e2 : applyUps eff.ups (applyUps st.H noH) = applyUps (st.app o.dst eff).H noH := by simp only [AState.app]; rw [applyUps_append]
  rw [e2] at F'
  simpa only [e1] using F'
end

section
variable {E : Env} {fr : Nat → Option AV} {H : Nat → Option Own} {Kn : Nat → Prop} {σ : Sig} {a : Act} {w w' : World} {o : Oper} {nx : Nat}
theorem good_makem (F : Fits E fr H Kn σ a w) (hr : ¬ Kn nx) {t e : TypeId} {d : TD} (e' : TypeId) (hT : TyOK E.P t d) (hk : d.kd = .slr e) {l c : Operand} {n : Int} (ho : o.op = .makeSlice t l c) (hl : a.eval l = .int .i64 n) (hc : a.eval c = .int .i64 n) (h0 : 0 ≤ n) (h1 : n ≤ 1099511627776) {vc : Prop} :
    Good E fr H Kn a w o nx ⟨.sl nx, [(nx, some (.mat e e' (List.replicate n.toNat [])))], 1, vc⟩ := by
  obtain ⟨hu, ie, hi, hz, hsz, hby⟩ := hT.slicer hk
  obtain ⟨w1, hrun, hown, hg⟩ := run_make_full (P := E.P) w 0 t e ie (.slice none 0 0) 1 hu hi hz hsz .i64 .i64 n.toNat (by rw [hby]; omega) (by simp only [maxLen]; omega) (Nat.zero_le _)
  rw [Int.toNat_of_nonneg h0] at hrun
  have hw : ∀ k, k < w.heap.size → w1.heap[k]? = w.heap[k]? := fun k hk' => hg.block k hk' (by simp)
  have hlt : w.heap.size < w1.heap.size := by
    rcases hown.2 with ⟨h2, _⟩ | ⟨g, cap, cur, h2, _, h3, _⟩
    · cases h2
    · simp only [Value.slice.injEq, Option.some.injEq, Addr.mk.injEq, and_true, true_and] at h2
      rw [h2.1]; exact (Array.getElem?_eq_some_iff.1 h3).1
  have hcells : (madeCells (Value.slice none 0 0).cells (n.toNat * 1)).toList = List.replicate n.toNat (.slice none 0 0) := by rw [Nat.mul_one]; exact toList_madeCells_one _ _
  rw [hcells] at hown
  refine good_fresh F hr (v := .slice (some ⟨w.heap.size, 0, none⟩) n.toNat n.toNat) _ (.slice (some ⟨w.heap.size, 0, none⟩) n.toNat n.toNat) [w.heap.size] ?_ hw hg.size hg.os hg.tape hg.output (by simp [hlt]) ?_ (fun _ _ h => h) ?_
  · simp only [execOp, ho, hl, hc]
    exact run_ok_value hrun
  · intro σ'' _
    have hfl : (List.replicate n.toNat ([] : List Nat)).flatten = [] := by
      rw [List.flatten_eq_nil_iff]; intro l hl2; exact List.eq_of_mem_replicate hl2
    refine ⟨_, List.replicate n.toNat [], by rw [List.length_replicate]; exact hown, by rw [hfl]; rfl, by simp, by rw [hfl]; simp [Value.blk], ?_⟩
    intro i u xs b hu' hxs hb
    rw [List.eq_of_mem_replicate (List.mem_of_getElem? hu'), List.eq_of_mem_replicate (List.mem_of_getElem? hxs), List.eq_of_mem_replicate (List.mem_of_getElem? hb)]
    exact ⟨World.ownsRow_nil _ _ _ _, rfl⟩
  · intro σ'' h'' s bs hs
    rw [h''] at hs; cases hs; rfl
theorem nod_disj : ∀ {L : List (List Nat)} {i j : Nat} {x y : List Nat}, L.flatten.Nodup → L[i]? = some x → L[j]? = some y → i ≠ j → ∀ b ∈ x, b ∉ y
  | [], i, j, x, y, _, hx, _, _, _, _, _ => by simp at hx
  | l :: L, 0, 0, x, y, _, _, _, h, _, _, _ => absurd rfl h
  | l :: L, 0, j + 1, x, y, hn, hx, hy, _, b, hb, hb2 => by
    rw [List.flatten_cons, List.nodup_append] at hn
    simp at hx; subst hx
    have := List.mem_of_getElem? (show L[j]? = some y by simpa using hy)
    exact hn.2.2 b hb b (List.mem_flatten.2 ⟨y, this, hb2⟩) rfl
  | l :: L, i + 1, 0, x, y, hn, hx, hy, _, b, hb, hb2 => by
    rw [List.flatten_cons, List.nodup_append] at hn
    simp at hy; subst hy
    have := List.mem_of_getElem? (show L[i]? = some x by simpa using hx)
    exact hn.2.2 b hb2 b (List.mem_flatten.2 ⟨x, this, hb⟩) rfl
  | l :: L, i + 1, j + 1, x, y, hn, hx, hy, h, b, hb, hb2 => by
    rw [List.flatten_cons, List.nodup_append] at hn
    exact nod_disj hn.2.1 (by simpa using hx) (by simpa using hy) (by omega) b hb hb2
theorem nod_set {A bq : List Nat} {L : List (List Nat)} {i : Nat} (hi : i < L.length) (h : (A ++ L.flatten).Nodup) (hq : bq.Nodup) (hd : ∀ b ∈ bq, b ∉ A ++ L.flatten) : (A ++ (L.set i bq).flatten).Nodup ∧ ∀ b ∈ (L.set i bq).flatten, b ∈ bq ∨ b ∈ L.flatten := by
  have hL : L = L.take i ++ (L[i] :: L.drop (i + 1)) := by rw [← List.drop_eq_getElem_cons hi, List.take_append_drop]
  have hS : L.set i bq = L.take i ++ (bq :: L.drop (i + 1)) := List.set_eq_take_append_cons_drop.trans (by rw [if_pos hi])
  have hf : L.flatten = (L.take i).flatten ++ (L[i] ++ (L.drop (i + 1)).flatten) := by
    conv => lhs; rw [hL]
    rw [List.flatten_append, List.flatten_cons]
  rw [hS, List.flatten_append, List.flatten_cons]
  rw [hf] at h hd
  generalize (L.take i).flatten = X at *
  generalize (L.drop (i + 1)).flatten = Y at *
  generalize L[i] = Z at *
  simp only [List.nodup_append, List.mem_append, not_or] at h hd ⊢
  obtain ⟨hA, ⟨hX, ⟨hZ, hY, hZY⟩, hXZ⟩, hAX⟩ := h
  refine ⟨⟨hA, ⟨hX, ⟨hq, hY, fun b hb c hc e => (hd b hb).2.2.2 (e ▸ hc)⟩, fun b hb c hc => ?_⟩, fun b hb c hc => ?_⟩, fun b hb => ?_⟩
  · rcases hc with hc | hc
    · exact fun e => (hd c hc).2.1 (e ▸ hb)
    · exact hXZ b hb c (.inr hc)
  · rcases hc with hc | hc | hc
    · exact hAX b hb c (.inl hc)
    · exact fun e => (hd c hc).1 (e ▸ hb)
    · exact hAX b hb c (.inr (.inr hc))
  · rw [hf]
    rcases hb with hb | hb | hb
    · exact .inr (by simp [hb])
    · exact .inl hb
    · exact .inr (by simp [hb])

/-- A row is stored: what owned the rows has a new name. -/
theorem store_mat (F : Fits E fr H Kn σ a w) (hnx : ¬ Kn nx) {t : TypeId} {d : TD} (hT : TyOK E.P t d) {x y : Operand} (ho : o.op = .store t x y) {r q : Nat} {i : Int} {e e' : TypeId} {xss : List (List Int)} {ys : List Int} (hx : Knows E Kn σ w (.oe r 1 i 0) (a.eval x)) (hH : H r = some (.mat e e' xss))
    (hne : q ≠ r) (hH' : H q = some (.sl e' .i64 ys)) (hy : Knows E Kn σ w (.sl q) (a.eval y)) (hd : d.size = 1) :
    ∃ w' σ' s, (execOp a.eval o).run E.P w = .ok .skip w' ∧ Fits E fr (upd (upd (upd H q none) r none) nx (some (.mat e e' (xss.set i.toNat ys)))) (fun p => Kn p ∨ p = nx) σ' a w' ∧ (∃ bs, σ r = some (s, bs)) ∧ ∃ bs, σ' nx = some (s, bs) := by
  obtain ⟨s, bs, hs1, h2⟩ := F.heap r _ hH
  obtain ⟨sq, bq, hq1, hq2⟩ := F.heap q _ hH'
  have hvy : a.eval y = sq := hy.self sq bq hq1
  obtain ⟨hrowq, hbq⟩ := hq2 σ (fun _ _ => rfl)
  obtain ⟨b, n, cap, hs', hvx, hi0, hin⟩ := hx.self s bs hs1
  obtain ⟨us, bss, hown, hbs, hbl, hnd, hrow⟩ := h2 σ (fun _ _ => rfl)
  have hn := own_len hown hs'
  obtain ⟨cur, hg⟩ := own_block hown hs'
  have hul : us.length = xss.length := by have := hown.1; simpa using this
  subst hn
  have hilt : i.toNat < xss.length := by omega
  have hone : (a.eval y).oneCell' = true := by
    rw [hvy]
    rcases hrowq.2 with ⟨h3, _⟩ | ⟨_, _, _, h3, _⟩ <;> rw [h3] <;> rfl
  have hblk : Value.blk s = [b] := by rw [hs']; rfl
  have hbmem : b ∈ bs := by rw [hbs, hblk]; simp
  have hblt := (F.lt r s bs hs1 b hbmem).1
  have hdq : ∀ c ∈ bq, c ∉ bs := F.disj q r sq bq s bs hq1 hs1 hne
  subst hs'
  obtain ⟨ho1, ho2⟩ := ownsRow_over hown hg (i.toNat * 1 + 0) [a.eval y] (by simp; omega)
  have hst := run_store_gen (hT.sizeOf w) [a.eval y] (by rw [one_cells hone]) (by simp [hd]) (by simpa using hone) b (i.toNat * 1 + 0) cur e hg ho2
  have hheap : ∀ k, k ≠ b → (w.setRow b (over cur.toList (i.toNat * 1 + 0) [a.eval y]).toArray).heap[k]? = w.heap[k]? := fun k hk => setRow_old w b k _ hk
  have hndq : bq.Nodup := by
    rw [hbq]
    rcases hrowq.2 with ⟨h3, _⟩ | ⟨g, _, _, h3, _⟩ <;> rw [h3] <;> simp [Value.blk]
  have hKq : Kn q := Classical.byContradiction fun hn2 => by rw [F.gone q (F.known q hn2)] at hq1; cases hq1
  have hKr : Kn r := Classical.byContradiction fun hn2 => by rw [F.gone r (F.known r hn2)] at hs1; cases hs1
  have hqx : q ≠ nx := fun h => hnx (h ▸ hKq)
  have hrx : r ≠ nx := fun h => hnx (h ▸ hKr)
  obtain ⟨hnd2, hsub⟩ := nod_set (i := i.toNat) (bq := bq) (by rw [hbl]; exact hilt) hnd hndq (fun c hc => by rw [← hbs]; exact hdq c hc)
  refine ⟨w.setRow b (over cur.toList (i.toNat * 1 + 0) [a.eval y]).toArray, upd (upd (upd σ q none) r none) nx (some (.slice (some ⟨b, 0, none⟩) xss.length cap, [b] ++ (bss.set i.toNat bq).flatten)), .slice (some ⟨b, 0, none⟩) xss.length cap, ?_, ?_, ⟨bs, hs1⟩, ⟨[b] ++ (bss.set i.toNat bq).flatten, upd_same _ _ _⟩⟩
  · simp only [execOp, ho, Instr.storeAt, hvx, Instr.sureAddr]
    generalize i.toNat * 1 + 0 = off at hst ⊢
    simp [hst]
  · have hbs2 : ∀ c ∈ [b] ++ (bss.set i.toNat bq).flatten, c ∈ bs ∨ c ∈ bq := fun c hc => by
      rcases List.mem_append.1 hc with h | h
      · exact .inl (by rw [hbs, hblk]; exact List.mem_append_left _ h)
      · rcases hsub c h with h | h
        · exact .inr h
        · exact .inl (by rw [hbs]; exact List.mem_append_right _ h)
    have hother : ∀ p s2 bs2, p ≠ r → p ≠ q → σ p = some (s2, bs2) → ∀ c ∈ bs2, c ∉ bs ∧ c ∉ bq := fun p s2 bs2 h3 h4 h5 c hc => ⟨F.disj p r s2 bs2 _ bs h5 hs1 h3 c hc, F.disj p q s2 bs2 _ bq h5 hq1 h4 c hc⟩
    have sOther : ∀ p, p ≠ nx → p ≠ r → p ≠ q → upd (upd (upd σ q none) r none) nx (some (.slice (some ⟨b, 0, none⟩) xss.length cap, [b] ++ (bss.set i.toNat bq).flatten)) p = σ p := fun p h3 h4 h5 => by rw [upd_ne _ _ h3, upd_ne _ _ h4, upd_ne _ _ h5]
    have sR : upd (upd (upd σ q none) r none) nx (some (.slice (some ⟨b, 0, none⟩) xss.length cap, [b] ++ (bss.set i.toNat bq).flatten)) r = none := by rw [upd_ne _ _ hrx, upd_same]
    have sQ : upd (upd (upd σ q none) r none) nx (some (.slice (some ⟨b, 0, none⟩) xss.length cap, [b] ++ (bss.set i.toNat bq).flatten)) q = none := by rw [upd_ne _ _ hqx, upd_ne _ _ hne, upd_same]
    refine F.world (fun k => k = b) (fun k hk => ⟨r, _, bs, hs1, hk ▸ hbmem⟩) (fun k _ hk => hheap k hk) (by simp) rfl rfl ⟨rfl, Nat.le_refl _⟩ ?_ (fun _ h => .inl h) ?_ ?_ ?_ ?_ ?_ ?_
    · intro p hp
      by_cases h3 : p = r
      · right; rw [h3]; exact sR
      · by_cases h4 : p = q
        · right; rw [h4]; exact sQ
        · left; exact sOther p (fun h => hnx (h ▸ hp)) h3 h4
    · rintro c ⟨p, s2, bs2, h3, h4⟩
      left
      by_cases h5 : p = nx
      · rw [h5, upd_same] at h3; cases h3
        rcases hbs2 c h4 with h | h
        · exact ⟨r, _, bs, hs1, h⟩
        · exact ⟨q, sq, bq, hq1, h⟩
      · by_cases h6 : p = r
        · rw [h6, sR] at h3; cases h3
        · by_cases h7 : p = q
          · rw [h7, sQ] at h3; cases h3
          · rw [sOther p h5 h6 h7] at h3; exact ⟨p, s2, bs2, h3, h4⟩
    · intro p o' ho'
      by_cases h5 : p = nx
      · right
        rw [h5, upd_same] at ho'; cases ho'
        refine ⟨_, _, by rw [h5, upd_same], fun σ'' h'' => ?_⟩
        refine ⟨over us (i.toNat * 1 + 0) [a.eval y], bss.set i.toNat bq, by rw [List.length_set]; exact ho1, by rfl, by rw [List.length_set, List.length_set]; exact hbl, hnd2, ?_⟩
        intro j u xs c hu hxs hc
        rw [over_one _ _ _ (by omega)] at hu
        simp only [Nat.mul_one, Nat.add_zero] at hu
        rw [List.getElem?_set] at hu hxs hc
        by_cases hj : i.toNat = j
        · rw [if_pos hj] at hu hxs hc
          rw [if_pos (by omega)] at hu hxs hc
          cases hu; cases hxs; cases hc
          refine ⟨?_, hvy.symm ▸ hbq⟩
          have h8 : w.ownsRow 0 e' 1 (a.eval y) ys.length (ys.map (Value.int .i64)) := by
            have := hrowq
            rw [show ys.flatMap (FT.vals .i64) = ys.map (Value.int .i64) from (List.map_eq_flatMap (f := Value.int .i64) (l := ys)).symm] at this
            rw [hvy]
            exact this
          exact ownsRow_keep h8 (fun c hc => hheap c (fun h => hdq c (by rw [hbq, ← hvy]; exact hc) (h ▸ hbmem)))
        · rw [if_neg hj] at hu hxs hc
          obtain ⟨h8, h9⟩ := hrow j u xs c hu hxs hc
          refine ⟨ownsRow_keep h8 (fun c2 hc2 => hheap c2 (fun h => ?_)), h9⟩
          rw [hblk, List.singleton_append, List.nodup_cons] at hnd
          exact hnd.1 (List.mem_flatten.2 ⟨c, List.mem_of_getElem? hc, by rw [h9, ← h]; exact hc2⟩)
      · left
        rw [upd_ne _ _ h5] at ho'
        by_cases h6 : p = r
        · rw [h6, upd_same] at ho'; cases ho'
        · rw [upd_ne _ _ h6] at ho'
          by_cases h7 : p = q
          · rw [h7, upd_same] at ho'; cases ho'
          · rw [upd_ne _ _ h7] at ho'
            exact ⟨F.kn ho', ho', sOther p h5 h6 h7, fun s2 bs2 h8 c hc hcb => (hother p s2 bs2 h6 h7 h8 c hc).1 (hcb ▸ hbmem)⟩
    · intro p hp
      by_cases h5 : p = nx
      · rw [h5, upd_same] at hp; cases hp
      · by_cases h6 : p = r
        · rw [h6]; exact sR
        · by_cases h7 : p = q
          · rw [h7]; exact sQ
          · rw [upd_ne _ _ h5, upd_ne _ _ h6, upd_ne _ _ h7] at hp
            rw [sOther p h5 h6 h7]; exact F.gone p hp
    · intro p hp
      have h5 : p ≠ nx := fun h => hp (.inr h)
      have h6 : p ≠ r := fun h => hp (.inl (h ▸ hKr))
      have h7 : p ≠ q := fun h => hp (.inl (h ▸ hKq))
      rw [upd_ne _ _ h5, upd_ne _ _ h6, upd_ne _ _ h7]
      exact F.known p (fun h => hp (.inl h))
    · intro p s2 bs2 h3 c hc
      by_cases h5 : p = nx
      · rw [h5, upd_same] at h3; cases h3
        rcases hbs2 c hc with h | h
        · exact ⟨by simpa using (F.lt r _ bs hs1 c h).1, (F.lt r _ bs hs1 c h).2⟩
        · exact ⟨by simpa using (F.lt q sq bq hq1 c h).1, (F.lt q sq bq hq1 c h).2⟩
      · by_cases h6 : p = r
        · rw [h6, sR] at h3; cases h3
        · by_cases h7 : p = q
          · rw [h7, sQ] at h3; cases h3
          · rw [sOther p h5 h6 h7] at h3
            exact ⟨by simpa using (F.lt p s2 bs2 h3 c hc).1, (F.lt p s2 bs2 h3 c hc).2⟩
    · intro p p' s2 bs2 s3 bs3 h3 h4 hpp c hc hc2
      by_cases h5 : p = nx
      · rw [h5, upd_same] at h3; cases h3
        have h5' : p' ≠ nx := fun h => hpp (by rw [h5, h])
        by_cases h6 : p' = r
        · rw [h6, sR] at h4; cases h4
        · by_cases h7 : p' = q
          · rw [h7, sQ] at h4; cases h4
          · rw [sOther p' h5' h6 h7] at h4
            have := hother p' s3 bs3 h6 h7 h4 c hc2
            rcases hbs2 c hc with h | h
            · exact this.1 h
            · exact this.2 h
      · by_cases h6 : p = r
        · rw [h6, sR] at h3; cases h3
        · by_cases h7 : p = q
          · rw [h7, sQ] at h3; cases h3
          · rw [sOther p h5 h6 h7] at h3
            by_cases h8 : p' = nx
            · rw [h8, upd_same] at h4; cases h4
              have := hother p s2 bs2 h6 h7 h3 c hc
              rcases hbs2 c hc2 with h | h
              · exact this.1 h
              · exact this.2 h
            · by_cases h9 : p' = r
              · rw [h9, sR] at h4; cases h4
              · by_cases h10 : p' = q
                · rw [h10, sQ] at h4; cases h4
                · rw [sOther p' h8 h9 h10] at h4
                  exact F.disj p p' s2 bs2 s3 bs3 h3 h4 hpp c hc hc2
end
end Go.Proofs.Ytpiklifnbbhleaa
