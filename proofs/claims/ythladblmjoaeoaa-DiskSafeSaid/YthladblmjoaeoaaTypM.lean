import Derived.Test.YthladblmjoaeoaaTyp
import Derived.Test.YthladblmjoaeoaaMp
/- Printed by an own tool (wip/tools/typm.py). -/
namespace Go.Proofs.Ythladblmjoaeoaa
set_option linter.unusedVariables false
set_option linter.unusedSimpArgs false
open Go.Eng
instance : MapT PR T_m_int_s_uint8 T_int T_s_uint8 := ⟨by kernel_rfl⟩
instance : KeyT PR T_int KI := KeyT.int (by kernel_rfl)
end Go.Proofs.Ythladblmjoaeoaa
