import Derived.Test.YtpihhlaiofkmdaaTyp
import Derived.Test.YtpihhlaiofkmdaaMp
/- Printed by an own tool (wip/tools/typm.py). -/
namespace Go.Proofs.Ytpihhlaiofkmdaa
set_option linter.unusedVariables false
set_option linter.unusedSimpArgs false
open Go.Eng
instance : MapT PR T_m_api_Dot_inst_Rec T_api_Dot T_inst_Rec := ⟨by kernel_rfl⟩
end Go.Proofs.Ytpihhlaiofkmdaa
