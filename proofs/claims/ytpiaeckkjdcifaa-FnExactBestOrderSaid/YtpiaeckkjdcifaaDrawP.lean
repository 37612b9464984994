/- Walks over drawn boxes and plans. No condition. -/
import Derived.Test.YtpiaeckkjdcifaaDrawA
import Derived.Test.YtpiaeckkjdcifaaPut
import Derived.Test.YtpiaeckkjdcifaaNext
namespace Go.Proofs.Ytpiaeckkjdcifaa
open Go
set_option linter.unusedVariables false
set_option linter.unusedSimpArgs false

theorem rr7 {fn : Func} {C : Ctr} {st : AState} {α1 : Type} {α2 : Type} {α3 : Type} {α4 : Type} {α5 : Type} {α6 : Type} {α7 : Type} {g : α1 → α2 → α3 → α4 → α5 → α6 → α7 → CRes} {p : α1 → α2 → α3 → α4 → α5 → α6 → α7 → Prop} {a1 : α1} {a2 : α2} {a3 : α3} {a4 : α4} {a5 : α5} {a6 : α6} {a7 : α7} (hret : ∃ rs, RetOK tyT fn C (g a1 a2 a3 a4 a5 a6 a7) rs st) (hg : p a1 a2 a3 a4 a5 a6 a7) : ∃ R, (∃ a1 a2 a3 a4 a5 a6 a7, R = g a1 a2 a3 a4 a5 a6 a7 ∧ p a1 a2 a3 a4 a5 a6 a7) ∧ ∃ rs, RetOK tyT fn C R rs st := ⟨_, ⟨a1, a2, a3, a4, a5, a6, a7, rfl, hg⟩, hret⟩
theorem rr8 {fn : Func} {C : Ctr} {st : AState} {α1 : Type} {α2 : Type} {α3 : Type} {α4 : Type} {α5 : Type} {α6 : Type} {α7 : Type} {α8 : Type} {g : α1 → α2 → α3 → α4 → α5 → α6 → α7 → α8 → CRes} {p : α1 → α2 → α3 → α4 → α5 → α6 → α7 → α8 → Prop} {a1 : α1} {a2 : α2} {a3 : α3} {a4 : α4} {a5 : α5} {a6 : α6} {a7 : α7} {a8 : α8} (hret : ∃ rs, RetOK tyT fn C (g a1 a2 a3 a4 a5 a6 a7 a8) rs st) (hg : p a1 a2 a3 a4 a5 a6 a7 a8) : ∃ R, (∃ a1 a2 a3 a4 a5 a6 a7 a8, R = g a1 a2 a3 a4 a5 a6 a7 a8 ∧ p a1 a2 a3 a4 a5 a6 a7 a8) ∧ ∃ rs, RetOK tyT fn C R rs st := ⟨_, ⟨a1, a2, a3, a4, a5, a6, a7, a8, rfl, hg⟩, hret⟩

def emptyR (b r t : Int) : List Int := if hv b r t = true then List.replicate (b * r * t).toNat 0 else []
theorem empty_len (b r t : Int) : (emptyR b r t).length ≤ 36 := by
  unfold emptyR; split
  · rename_i h; have := hv_box h; rw [List.length_replicate]; omega
  · simp
theorem putR_le (b r t : Int) (bs : List BoxD) (p : List Int) (s n : Int) : (putR b r t bs p s n).1.length ≤ p.length := by
  unfold putR; split
  · split
    · split <;> simp
    · simp
  · simp

end Go.Proofs.Ytpiaeckkjdcifaa
