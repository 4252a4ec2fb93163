import Derived.Test.YtmojfpaagokckaaTyp
import Derived.Test.YtmojfpaagokckaaMp
/- Printed by an own tool (wip/tools/typm.py). -/
namespace Go.Proofs.Ytmojfpaagokckaa
set_option linter.unusedVariables false
set_option linter.unusedSimpArgs false
open Go.Eng
instance : MapT PR T_m_api_Dot_string T_api_Dot T_string := ⟨by kernel_rfl⟩
instance : MapT PR T_m_string_vec_Vec T_string T_vec_Vec := ⟨by kernel_rfl⟩
instance : KeyT PR T_string KS := KeyT.str (by kernel_rfl)
end Go.Proofs.Ytmojfpaagokckaa
