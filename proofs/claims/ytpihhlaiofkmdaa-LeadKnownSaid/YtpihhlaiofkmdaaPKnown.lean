/- LeadKnown, plainly. -/
import Derived.Test.YtpihhlaiofkmdaaCLead8
namespace Go.Proofs.Ytpihhlaiofkmdaa
set_option linter.unusedVariables false
set_option linter.unusedSimpArgs false
open Go Go.Eng

abbrev kx : Dot := ⟨0, 1⟩
abbrev ky : Dot := ⟨1, 1⟩
def kl0 : LD × Tbl := (ldZ 3 0).begin [] 1 ⟨1, kx, (0, 0), [120], 0, P7.all 0⟩
def km0 : LD × Tbl := (ldZ 3 1).begin [] 1 ⟨1, ky, (0, 1), [121], 0, P7.all 0⟩
def kp : Tbl × Ans Bs × Int := tdo km0.2 kl0.1.msg
def kl1 : (LD × Tbl) × Bool := kl0.1.got kl0.2 1 kp.2.1
def kq : Tbl × Ans Bs × Int := tdo kp.1 kl1.1.1.msg
def kl2 : (LD × Tbl) × Bool := kl1.1.1.got kl1.1.2 1 kp.2.1
def kl3 : (LD × Tbl) × Bool := kl2.1.1.got kl2.1.2 1 kq.2.1
def kr0 : LD × Tbl := (ldZ 3 2).begin [] 4 ⟨4, kx, (1, 2), [], 0, P7.all 0⟩
def ks : Tbl × Ans Bs × Int := tdo kl3.1.2 kr0.1.msg
def kr1 : (LD × Tbl) × Bool := kr0.1.got kr0.2 0 ks.2.1
theorem kn_a : propose 2 0 kx [] [] = .inr 1 := by kernel_rfl
theorem kn_b : propose 3 0 ky [] [] = .inr 1 := by kernel_rfl
theorem kn_l : propose 3 0 kx [120] [] = .inl kl0 := by kernel_rfl
theorem kn_m : propose 3 1 ky [121] [] = .inl km0 := by kernel_rfl
theorem kn_c : propose 3 0 kx [122] kl0.2 = .inr 5 := by kernel_rfl
theorem kn_r : recover 3 2 kx [] = .inl kr0 := by kernel_rfl
theorem kn_k : recover 3 0 kx ks.1 = .inr 5 := by kernel_rfl
theorem kn_1 : kl1.2 = true ∧ kl1.1.1.phase = 2 ∧ kl1.1.1.msg.kind = 2 ∧ kl1.1.1.msg.deps.x1 = 1 := ⟨by kernel_rfl, by kernel_rfl, by kernel_rfl, by kernel_rfl⟩
theorem kn_2 : kl2.2 = false ∧ kl3.2 = true ∧ kl3.1.1.phase = 3 ∧ kl3.1.1.fast = false := ⟨by kernel_rfl, by kernel_rfl, by kernel_rfl, by kernel_rfl⟩
theorem kn_3 : kr1.2 = true ∧ kr1.1.1.phase = 3 ∧ (trec kr1.1.2 kx).st = 3 := ⟨by kernel_rfl, by kernel_rfl, by kernel_rfl⟩
theorem kn_4 : km0.1.phase = 1 ∧ km0.1.slow kq.1 = ((km0.1, kq.1), false) := ⟨by kernel_rfl, by kernel_rfl⟩
theorem kn_5 : kp.2.1.rc.cmd.length = 1 ∧ kq.2.1.rc.cmd.length = 1 ∧ ks.2.1.rc.cmd.length = 1 := ⟨by kernel_rfl, by kernel_rfl, by kernel_rfl⟩
end Go.Proofs.Ytpihhlaiofkmdaa
