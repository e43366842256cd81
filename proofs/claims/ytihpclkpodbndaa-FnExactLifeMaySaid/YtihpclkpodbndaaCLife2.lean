/- Frames, modes and messages' small tests, both programs'. -/
import Derived.Test.YtihpclkpodbndaaCLife
import Derived.Test.YtihpclkpodbndaaG
import Derived.Test.YtihpclkpodbndaaP24
import Derived.Test.YtihpclkpodbndaaP25
import Derived.Test.YtihpclkpodbndaaP26
import Derived.Test.YtihpclkpodbndaaP27
import Derived.Test.YtihpclkpodbndaaP28
import Derived.Test.YtihpclkpodbndaaP29
import Derived.Test.YtihpclkpodbndaaP61
import Derived.Test.YtihpclkpodbndaaP62
set_option linter.unusedVariables false
set_option linter.unusedSimpArgs false
namespace Go.Proofs.Ytihpclkpodbndaa.C
open Go.RowKit Go.Proofs.Ytihpclkpodbndaa.P Go.Proofs.Ytihpclkpodbndaa.G
theorem l4Node (a : Int) : spec_l4Node.f a = some (decide (0 ≤ a ∧ a ≤ 7)) := by
  unfold spec_l4Node.f; rw [l1In]; rfl
theorem isNode (a : Int) : impl_isNode.f a = some (decide (0 ≤ a ∧ a ≤ 7)) := by
  unfold impl_isNode.f; rw [in_]; rfl
def frameOk (a b c d e : Int) (s : ByteArray) : Bool := decide (0 ≤ a ∧ a ≤ 7) && decide (0 ≤ b ∧ b ≤ 15) && decide (0 ≤ c ∧ c ≤ 1000000000000) && decide (0 ≤ d) && decide (d < e) && decide (e ≤ 1000000000000) && decide ((s.size : Int) ≤ 24)
theorem sFrameOk (a b c d e : Int) (s : ByteArray) : spec_FrameOk.f a b c d e s = some (frameOk a b c d e s) := by
  unfold spec_FrameOk.f frameOk; simp only [l4Node, l1In, Option.bind_some, ge_iff_le]
  by_cases h1 : (0 ≤ a ∧ a ≤ 7) <;> by_cases h2 : (0 ≤ b ∧ b ≤ 15) <;> by_cases h3 : (0 ≤ c ∧ c ≤ 1000000000000) <;> by_cases h4 : 0 ≤ d <;> by_cases h5 : d < e <;> by_cases h6 : e ≤ 1000000000000 <;> simp [h1, h2, h3, h4, h5, h6]
theorem iFrameOk (a b c d e : Int) (s : ByteArray) : impl_FrameOk.f a b c d e s = some (frameOk a b c d e s) := by
  unfold impl_FrameOk.f frameOk; simp only [isNode, isTime, in_, Option.bind_some]
  by_cases h1 : (0 ≤ a ∧ a ≤ 7) <;> by_cases h2 : (0 ≤ b ∧ b ≤ 15) <;> by_cases h3 : (0 ≤ c ∧ c ≤ 1000000000000) <;> by_cases h4 : 0 ≤ d <;> by_cases h5 : d < e <;> by_cases h6 : e ≤ 1000000000000 <;> simp [h1, h2, h3, h4, h5, h6]
def lifeMay (m e : Int) : Bool := decide (0 ≤ m ∧ m ≤ 3) && (if e = 1 then m == 0 else if e = 2 ∨ e = 3 then m != 0 else if e = 4 then m == 2 else if e = 5 then m == 3 else if e = 6 then m == 2 || m == 3 else false)
theorem sLifeMay (k : Nat) (m e : Int) (hk : 1 ≤ k) : spec_LifeMay.f k m e = some (lifeMay m e) := by
  obtain ⟨k, rfl⟩ : ∃ j, k = j + 1 := ⟨k - 1, by omega⟩
  unfold spec_LifeMay.f lifeMay; simp only [l1In, Option.bind_some, spec_LifeMay.j0]
  by_cases h1 : (0 ≤ m ∧ m ≤ 3) <;> by_cases e1 : e = 1 <;> by_cases e2 : e = 2 <;> by_cases e3 : e = 3 <;> by_cases e4 : e = 4 <;> by_cases e5 : e = 5 <;> by_cases e6 : e = 6 <;> by_cases m2 : m = 2 <;> simp [h1, e1, e2, e3, e4, e5, e6, m2]
theorem iLifeMay (k : Nat) (m e : Int) (hk : 1 ≤ k) : impl_LifeMay.f k m e = some (lifeMay m e) := by
  obtain ⟨k, rfl⟩ : ∃ j, k = j + 1 := ⟨k - 1, by omega⟩
  unfold impl_LifeMay.f lifeMay; simp only [isMode, Option.bind_some, impl_LifeMay.j0]
  by_cases h1 : (0 ≤ m ∧ m ≤ 3) <;> by_cases e1 : e = 1 <;> by_cases e2 : e = 2 <;> by_cases e3 : e = 3 <;> by_cases e4 : e = 4 <;> by_cases e5 : e = 5 <;> by_cases e6 : e = 6 <;> by_cases m2 : m = 2 <;> simp [h1, e1, e2, e3, e4, e5, e6, m2]
end Go.Proofs.Ytihpclkpodbndaa.C
