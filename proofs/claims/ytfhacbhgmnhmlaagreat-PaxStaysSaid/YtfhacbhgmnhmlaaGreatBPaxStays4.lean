/- Texts of the claim PaxStays, joined: ShOrder, Lay, COrd, SrtX, COrd2, PSort, COrd3, COrd4, COrd5, COrd6, COrd7, Srt3, Srt4, Srt5. -/
import Derived.Test.YtfhacbhgmnhmlaaGreatBPaxStays1
import Derived.Shelf.SlIterI.Sorted
import Derived.Shelf.SortM.SortNone
import Derived.Shelf.SortM.Plain
import Derived.Shelf.SlSortCmp.NoneTotal
import Derived.Test.YtfhacbhgmnhmlaaGreatBPaxStays3
import Derived.Test.YtfhacbhgmnhmlaaGreatBPaxStays2
import Derived.WideShapes
import Derived.RangeFuncBox
import Derived.RangeFuncLeaves
import Derived.Shelf.Abstract
import Derived.WalkKit
import Derived.OwnWalkIn
import Derived.TacticsInMore
import Derived.LoopNIn
import Derived.LoopIn
namespace Go.Proofs.YtfhacbhgmnhmlaaGreat
set_option linter.unusedVariables false
set_option linter.unusedSimpArgs false
open Go.Eng
def S.order_compare.body (R : VK) (v0 v1 : Value) (W : World) : Prop :=
eF W (Instr.box T_order_Inst v0) fun v2 W=>
eF W (Instr.box T_order_Inst v1) fun v3 W=>
oA 2 v2 fun v5=>
lD (tick W) T_int64 v5 fun v6 W=>
oA 2 v3 fun v7=>
lD W T_int64 v7 fun v8 W=>
oA 0 v2 fun v10=>
oA 0 v10 fun v11=>
lD W T_int v11 fun v12 W=>
oA 0 v3 fun v13=>
oA 0 v13 fun v14=>
lD W T_int v14 fun v15 W=>
oA 0 v2 fun v17=>
oA 1 v17 fun v18=>
lD W T_int64 v18 fun v19 W=>
oA 0 v3 fun v20=>
oA 1 v20 fun v21=>
lD W T_int64 v21 fun v22 W=>
cL W F_cmp_Compare_int64 [v6, v8] fun v9 W=>
sB W [hL 17 T_int64 v21 v22, hL 14 T_int64 v18 v19, hL 10 T_int v14 v15, hL 7 T_int v11 v12] fun W=>
cL W F_cmp_Compare_int [v12, v15] fun v16 W=>
sB W [hL 17 T_int64 v21 v22, hL 14 T_int64 v18 v19] fun W=>
cL W F_cmp_Compare_int64 [v19, v22] fun v23 W=>
eF W (Instr.buildSlice T_s_int 3 #[(0, v9), (1, v16), (2, v23)]) fun v24 W=>
cL W F_cmp_Or_int [v24] fun v25 W=>
R v25 W
theorem S.order_compare.call {R : VK} {v0 v1 : Value} {W : World} (h : S.order_compare.body R v0 v1 W) : callK PR F_order_compare [v0, v1] R W :=
callS (fn := Tryz.f83) (h := (.t (.t .n))) h
def S.order_dot.body (R : VK) (v0 : Value) (W : World) : Prop :=
eF W (Instr.box T_api_Dot v0) fun v1 W=>
oA 0 v1 fun v3=>
lD W T_int v3 fun v4 W=>
oK (binP .geq v4 (nI 0)) fun v5=>
gA W v5 true 0 v1 fun v7 W=>
gL W v5 true T_int v7 fun v8 W=>
gP W v5 true (binP .lss v8 (nI 7)) fun v9 W=>
oK (pickP v5 v9 (.bool false)) fun v10=>
gA W v10 true 1 v1 fun v12 W=>
gL W v10 true T_int64 v12 fun v13 W=>
gP W v10 true (binP .geq v13 (nI 1)) fun v14 W=>
oK (pickP v10 v14 (.bool false)) fun v15=>
gA W v15 true 1 v1 fun v17 W=>
gL W v15 true T_int64 v17 fun v18 W=>
gP W v15 true (binP .leq v18 (nI 1000)) fun v19 W=>
oK (pickP v15 v19 (.bool false)) fun v20=>
R v20 W
theorem S.order_dot.call {R : VK} {v0 : Value} {W : World} (h : S.order_dot.body R v0 W) : callK PR F_order_dot [v0] R W :=
callS (fn := Tryz.f80) (h := (.t (.t .n))) h
def S.order_Good.j1 (R : VK) (x0 : Value) (W : World) : Prop :=
oK (lenP (.slice T_order_Inst) x0) fun v52=>
oK (binP .leq v52 (nI 1000)) fun v53=>
R v53 W
def S.order_Good.j2 (K1 : LK) (x0 x3 x9 x10 x11 : Value) (W : World) : Prop :=
oK (binP .add x11 (nI 1)) fun v50=>
K1 [x0, x3, x9, x10, v50] W
def S.order_Good.l2 (R : VK) (J2 : LK) (K2 : LK) (x0 x3 x9 x10 x11 x39 x40 : Value) (W : World) : Prop :=
oK (binP .lss x40 (nI 7)) fun v41=>
ifK v41 (
oK (idxV 7 false 1 x39 x40) fun v42=>
oK (binP .lss v42 (nI 0)) fun v44=>
gX W v44 false v42 fun v46 W=>
gP W v44 false (binP .gtr v46 (nI 1000)) fun v47 W=>
oK (pickP v44 (.bool true) v47) fun v48=>
ifK v48 (
R (.bool false) W) (
oK (binP .add x40 (nI 1)) fun v49=>
K2 [x0, x3, x9, x10, x11, x39, v49] W)) (
J2 [x0, x3, x9, x10, x11] W)
def S.order_Good.l1 (R : VK) (J1 : LK) (K1 : LK) (x0 x3 x9 x10 x11 : Value) (W : World) : Prop :=
oK (binP .lss x11 x10) fun v12=>
ifK v12 (
joinK (fun s W => S.order_Good.j2 K1 (nthv s 0) (nthv s 1) (nthv s 2) (nthv s 3) (nthv s 4) W) (fun J2 =>
oK (idxS 10 x9 x11) fun v13=>
lD W T_order_Inst v13 fun v14 W=>
eF W (Instr.alloc T_order_Inst true (.tuple #[])) fun v5 W=>
sT W T_order_Inst v5 v14 fun _ W=>
oA 0 v5 fun v15=>
lD W T_api_Dot v15 fun v16 W=>
cL W F_order_dot [v16] fun v17 W=>
oK (unP .not v17) fun v18=>
gA W v18 false 2 v5 fun v20 W=>
gL W v18 false T_int64 v20 fun v21 W=>
gP W v18 false (binP .lss v21 (nI 0)) fun v22 W=>
oK (pickP v18 (.bool true) v22) fun v23=>
gA W v23 false 2 v5 fun v25 W=>
gL W v23 false T_int64 v25 fun v26 W=>
gP W v23 false (binP .gtr v26 (nI 1099511627776)) fun v27 W=>
oK (pickP v23 (.bool true) v27) fun v28=>
gX W v28 false x3 fun v30 W=>
gA W v28 false 0 v5 fun v31 W=>
gL W v28 false T_api_Dot v31 fun v32 W=>
gR W v28 false (Instr.lookup T_m_api_Dot_bool v30 v32 false) fun v33 W=>
oK (pickP v28 (.bool true) v33) fun v34=>
ifK v34 (
R (.bool false) W) (
oA 0 v5 fun v36=>
lD W T_api_Dot v36 fun v37 W=>
eU W (Instr.mapUpdate T_m_api_Dot_bool x3 v37 (.bool true)) fun _ W=>
oA 3 v5 fun v38=>
lD W T_a7_int64 v38 fun v39 W=>
loopK (fun K2 s W => S.order_Good.l2 R J2 K2 (nthv s 0) (nthv s 1) (nthv s 2) (nthv s 3) (nthv s 4) (nthv s 5) (nthv s 6) W) [x0, x3, x9, x10, x11, v39, (nI 0)] W))) (
J1 [x0] W)
def S.order_Good.body (R : VK) (v0 : Value) (W : World) : Prop :=
eF W (Instr.makeMap T_m_api_Dot_bool none) fun v8 W=>
joinK (fun s W => S.order_Good.j1 R (nthv s 0) W) (fun J1 =>
oK (lenP (.slice T_order_Inst) v0) fun v10=>
loopK (fun K1 s W => S.order_Good.l1 R J1 K1 (nthv s 0) (nthv s 1) (nthv s 2) (nthv s 3) (nthv s 4) W) [v0, v8, v0, v10, (nI 0)] W)
theorem S.order_Good.call {R : VK} {v0 : Value} {W : World} (h : S.order_Good.body R v0 W) : callK PR F_order_Good [v0] R W :=
callS (fn := Tryz.f45) (h := (.t (.t (.at [0] (.t (.at [0, 3, 9, 10, 11] (.t (.two (.t .n) (.at [0, 3, 9, 10, 11] (.t (.two (.t (.two (.t .n) .n)) (.t (.t (.at [0, 3, 9, 10, 11, 39, 40] (.t (.two (.t .n) (.two (.t (.t (.two (.t .n) .n))) .n))) .n))))) .n))) .n)) (.t .n))))) h
def S.order_weave.j1 (R : VK) (x3 : Value) (W : World) : Prop :=
R x3 W
def S.order_weave.l1 (J1 : LK) (K1 : LK) (x3 x14 x15 x16 : Value) (W : World) : Prop :=
oK (binP .lss x16 x15) fun v17=>
ifK v17 (
oK (idxS 10 x14 x16) fun v19=>
lD W T_order_Inst v19 fun v20 W=>
eF W (Instr.alloc T_order_Inst true (.tuple #[])) fun v5 W=>
sT W T_order_Inst v5 v20 fun _ W=>
oK (nilP x3) fun v22=>
oA 1 v22 fun v23=>
lD (tick W) T_m_api_Dot_int v23 fun v24 W=>
oA 0 v5 fun v25=>
lD W T_api_Dot v25 fun v26 W=>
eU W (Instr.mapUpdate T_m_api_Dot_int v24 v26 x16) fun _ W=>
oK (binP .add x16 (nI 1)) fun v28=>
K1 [x3, x14, x15, v28] W) (
J1 [x3] W)
def S.order_weave.body (R : VK) (v0 : Value) (W : World) : Prop :=
cL W F_slices_Clone_order_Inst_order_Inst [v0] fun v7 W=>
cL W F_slices_SortFunc_order_Inst_order_Inst [v7, (.func (.func F_order_compare) #[] #[])] fun v9 W=>
eF W (Instr.makeMap T_m_api_Dot_int none) fun v11 W=>
oK (bldP (fun i => ([(0, 1), (1, 1)] : List (Nat × Nat))[i]?) [.slice none 0 0, .map none] [(0, v7), (1, v11)]) fun v12=>
eF W (Instr.box T_order_web v12) fun v13 W=>
joinK (fun s W => S.order_weave.j1 R (nthv s 0) W) (fun J1 =>
oK (lenP (.slice T_order_Inst) v7) fun v15=>
loopK (fun K1 s W => S.order_weave.l1 J1 K1 (nthv s 0) (nthv s 1) (nthv s 2) (nthv s 3) W) [v13, v7, v15, (nI 0)] W)
theorem S.order_weave.call {R : VK} {v0 : Value} {W : World} (h : S.order_weave.body R v0 W) : callK PR F_order_weave [v0] R W :=
callS (fn := Tryz.f50) (h := (.t (.t (.t (.t (.at [3] (.t (.at [3, 14, 15, 16] (.t (.two (.t .n) (.two (.t .n) .n))) .n)) (.t .n))))))) h
def S.order_web_each.j1 (K1 : LK) (x0 x1 x2 x18 x19 : Value) (W : World) : Prop :=
oK (binP .add x19 (nI 1)) fun v47=>
K1 [x0, x1, x2, x18, v47] W
def S.order_web_each.l2 (R : VK) (J1 : LK) (K2 : LK) (x0 x1 x2 x7 x8 x9 x18 x19 : Value) (W : World) : Prop :=
oK (binP .leq x9 x8) fun v25=>
ifK v25 (
oK (bldP (fun i => ([(0, 1), (1, 1)] : List (Nat × Nat))[i]?) [.int .i64 0, .int .i64 0] [(0, x7), (1, x9)]) fun v30=>
eF W (Instr.alloc T_api_Dot true (.tuple #[])) fun v10 W=>
sT W T_api_Dot v10 v30 fun _ W=>
lD (tick W) T_api_Dot v10 fun v31 W=>
oK (nilP x0) fun v33=>
oA 0 v33 fun v34=>
lD W T_s_order_Inst v34 fun v35 W=>
oK (idxS 10 v35 x1) fun v37=>
oA 0 v37 fun v38=>
lD W T_api_Dot v38 fun v39 W=>
rD W (aggEq .neq T_api_Dot v31 v39) fun v40 W=>
gX W v40 true x2 fun v42 W=>
gL W v40 true T_api_Dot v10 fun v43 W=>
gD W v40 true (fun k W => vcK PR v42 [v43] k W) fun v44 W=>
gP W v40 true (unP .not v44) fun v45 W=>
oK (pickP v40 v45 (.bool false)) fun v46=>
ifK v46 (
R (.bool false) W) (
oK (binP .add x9 (nI 1)) fun v27=>
K2 [x0, x1, x2, x7, x8, v27, x18, x19] W)) (
J1 [x0, x1, x2, x18, x19] W)
def S.order_web_each.l1 (R : VK) (K1 : LK) (x0 x1 x2 x18 x19 : Value) (W : World) : Prop :=
oK (binP .lss x19 (nI 7)) fun v20=>
ifK v20 (
joinK (fun s W => S.order_web_each.j1 K1 (nthv s 0) (nthv s 1) (nthv s 2) (nthv s 3) (nthv s 4) W) (fun J1 =>
oK (idxV 7 false 1 x18 x19) fun v22=>
loopK (fun K2 s W => S.order_web_each.l2 R J1 K2 (nthv s 0) (nthv s 1) (nthv s 2) (nthv s 3) (nthv s 4) (nthv s 5) (nthv s 6) (nthv s 7) W) [x0, x1, x2, x19, v22, (nI 1), x18, x19] W)) (
R (.bool true) W)
def S.order_web_each.body (R : VK) (v0 v1 v2 : Value) (W : World) : Prop :=
oK (nilP v0) fun v12=>
oA 0 v12 fun v13=>
lD W T_s_order_Inst v13 fun v14 W=>
oK (idxS 10 v14 v1) fun v16=>
oA 3 v16 fun v17=>
lD W T_a7_int64 v17 fun v18 W=>
loopK (fun K1 s W => S.order_web_each.l1 R K1 (nthv s 0) (nthv s 1) (nthv s 2) (nthv s 3) (nthv s 4) W) [v0, v1, v2, v18, (nI 0)] W
theorem S.order_web_each.call {R : VK} {v0 v1 v2 : Value} {W : World} (h : S.order_web_each.body R v0 v1 v2 W) : callK PR F_order_web_each [v0, v1, v2] R W :=
callS (fn := Tryz.f85) (h := (.t (.two (.t (.at [0, 1, 2, 18, 19] (.t (.two (.t .n) (.at [0, 1, 2, 18, 19] (.t (.t (.at [0, 1, 2, 7, 8, 9, 18, 19] (.two (.t (.t .n)) (.two (.t (.t (.two (.t .n) .n))) .n)) .n))) .n))) .n)) (.t .n)))) h
def S.order_web_on.j1 (R : VK) (x3 : Value) (W : World) : Prop :=
lD W T_s_s_int x3 fun v24 W=>
R v24 W
def S.order_web_on.l1 (J1 : LK) (K1 : LK) (x1 x3 x15 x16 : Value) (W : World) : Prop :=
oK (binP .lss x16 x15) fun v17=>
ifK v17 (
eF W (Instr.alloc T_int true (.tuple #[])) fun v4 W=>
sT W T_int v4 x16 fun _ W=>
lD W T_p_order_web x1 fun v19 W=>
lD W T_int v4 fun v20 W=>
cL W F_order_web_each [v19, v20, (.func (.func F_order_web_on_1) #[] #[x1, x3, v4])] fun v22 W=>
oK (binP .add x16 (nI 1)) fun v23=>
K1 [x1, x3, x15, v23] W) (
J1 [x3] W)
def S.order_web_on.body (R : VK) (v0 : Value) (W : World) : Prop :=
eF W (Instr.box T_p_order_web v0) fun v1 W=>
lD W T_p_order_web v1 fun v5 W=>
oK (nilP v5) fun v6=>
oA 0 v6 fun v7=>
lD W T_s_order_Inst v7 fun v8 W=>
oK (lenP (.slice T_order_Inst) v8) fun v9=>
eF W (Instr.makeSlice T_s_s_int v9 v9) fun v10 W=>
eF W (Instr.alloc T_s_s_int true (.tuple #[])) fun v3 W=>
sT W T_s_s_int v3 v10 fun _ W=>
joinK (fun s W => S.order_web_on.j1 R (nthv s 0) W) (fun J1 =>
lD W T_p_order_web v1 fun v11 W=>
oK (nilP v11) fun v12=>
oA 0 v12 fun v13=>
lD W T_s_order_Inst v13 fun v14 W=>
oK (lenP (.slice T_order_Inst) v14) fun v15=>
loopK (fun K1 s W => S.order_web_on.l1 J1 K1 (nthv s 0) (nthv s 1) (nthv s 2) (nthv s 3) W) [v1, v3, v15, (nI 0)] W)
theorem S.order_web_on.call {R : VK} {v0 : Value} {W : World} (h : S.order_web_on.body R v0 W) : callK PR F_order_web_on [v0] R W :=
callS (fn := Tryz.f54) (h := (.t (.t (.at [3] (.t (.at [1, 3, 15, 16] (.t (.two (.t .n) (.two (.t .n) .n))) .n)) (.t .n))))) h
def S.order_web_on_1.body (R : VK) (v0 v1 v2 v3 : Value) (W : World) : Prop :=
eF W (Instr.box T_api_Dot v0) fun v4 W=>
lD (tick W) T_p_order_web v1 fun v9 W=>
oK (nilP v9) fun v10=>
oA 1 v10 fun v11=>
lD W T_m_api_Dot_int v11 fun v12 W=>
lD W T_api_Dot v4 fun v13 W=>
rD W (Instr.lookup T_m_api_Dot_int v12 v13 true) fun v14 W=>
oK (extP 0 v14) fun v15=>
oK (extP 1 v14) fun v16=>
ifK v16 (
lD (tick W) T_s_s_int v2 fun v18 W=>
lD W T_int v3 fun v19 W=>
lD W T_s_s_int v2 fun v20 W=>
lD W T_int v3 fun v21 W=>
oK (idxS 1 v20 v21) fun v22=>
lD W T_s_int v22 fun v23 W=>
eF W (Instr.buildSlice T_s_int 1 #[(0, v15)]) fun v25 W=>
sB W [hL 5 T_s_int v22 v23, hL 3 T_int v3 v21, hL 2 T_s_s_int v2 v20, hL 1 T_int v3 v19, hL 0 T_s_s_int v2 v18] fun W=>
eF W (Builtin.append_ #[T_s_int, T_s_int] T_s_int #[v23, v25]) fun v26 W=>
sB W [hL 1 T_int v3 v19, hL 0 T_s_s_int v2 v18] fun W=>
oK (idxS 1 v18 v19) fun v27=>
sT W T_s_int v27 v26 fun _ W=>
R (.bool true) W) (
R (.bool true) W)
theorem S.order_web_on_1.call {R : VK} {v0 v1 v2 v3 : Value} {W : World} (h : S.order_web_on_1.body R v0 v1 v2 v3 W) : callK PR F_order_web_on_1 [v0, v1, v2, v3] R W :=
callS (fn := Tryz.f88) (h := (.t (.two (.t (.t (.t .n))) (.t .n)))) h
def S.order_finder_visit.j2 (R : VK) (x0 x7 : Value) (W : World) : Prop :=
oK (nilP x0) fun v179=>
oA 6 v179 fun v180=>
lD W T_s_s_int v180 fun v181 W=>
eF W (Instr.buildSlice T_s_s_int 1 #[(0, x7)]) fun v183 W=>
eF W (Builtin.append_ #[T_s_s_int, T_s_s_int] T_s_s_int #[v181, v183]) fun v184 W=>
oK (nilP x0) fun v185=>
oA 6 v185 fun v186=>
sT W T_s_s_int v186 v184 fun _ W=>
R (.tuple #[]) W
def S.order_finder_visit.l1 (J2 : LK) (K1 : LK) (x0 x7 x164 x165 x166 : Value) (W : World) : Prop :=
oK (binP .lss x166 x165) fun v167=>
ifK v167 (
oK (idxS 1 x164 x166) fun v168=>
lD W T_int v168 fun v169 W=>
oK (nilP x0) fun v171=>
oA 4 v171 fun v172=>
lD W T_s_bool v172 fun v173 W=>
oK (idxS 1 v173 v169) fun v175=>
sT W T_bool v175 (.bool false) fun _ W=>
oK (binP .add x166 (nI 1)) fun v176=>
K1 [x0, x7, x164, x165, v176] W) (
J2 [x0, x7] W)
def S.order_finder_visit.j1 (R : VK) (x0 x1 : Value) (W : World) : Prop :=
oK (nilP x0) fun v127=>
oA 2 v127 fun v128=>
lD (tick W) T_s_int v128 fun v129 W=>
oK (idxS 1 v129 x1) fun v131=>
lD W T_int v131 fun v132 W=>
oK (nilP x0) fun v134=>
oA 1 v134 fun v135=>
lD W T_s_int v135 fun v136 W=>
oK (idxS 1 v136 x1) fun v138=>
lD W T_int v138 fun v139 W=>
oK (binP .neq v132 v139) fun v140=>
ifK v140 (
R (.tuple #[]) W) (
oK (nilP x0) fun v142=>
oA 3 v142 fun v143=>
lD W T_s_int v143 fun v144 W=>
cL W F_slices_Index_int_int [v144, x1] fun v146 W=>
oK (nilP x0) fun v148=>
oA 3 v148 fun v149=>
lD W T_s_int v149 fun v150 W=>
oK (slcS 1 v150 (some v146) none none) fun v152=>
cL W F_slices_Values_int_int [v152] fun v153 W=>
cL W F_slices_Sorted_int [v153] fun v154 W=>
oK (nilP x0) fun v157=>
oA 3 v157 fun v158=>
lD W T_s_int v158 fun v159 W=>
oK (slcS 1 v159 none (some v146) none) fun v161=>
oK (nilP x0) fun v162=>
oA 3 v162 fun v163=>
sT W T_s_int v163 v161 fun _ W=>
joinK (fun s W => S.order_finder_visit.j2 R (nthv s 0) (nthv s 1) W) (fun J2 =>
oK (lenP (.slice T_int) v154) fun v165=>
loopK (fun K1 s W => S.order_finder_visit.l1 J2 K1 (nthv s 0) (nthv s 1) (nthv s 2) (nthv s 3) (nthv s 4) W) [x0, v154, v154, v165, (nI 0)] W))
def S.order_finder_visit.j3 (K2 : LK) (x0 x1 x59 x60 x61 : Value) (W : World) : Prop :=
oK (binP .add x61 (nI 1)) fun v125=>
K2 [x0, x1, x59, x60, v125] W
def S.order_finder_visit.l2 (J1 : LK) (K2 : LK) (x0 x1 x59 x60 x61 : Value) (W : World) : Prop :=
oK (binP .lss x61 x60) fun v62=>
ifK v62 (
joinK (fun s W => S.order_finder_visit.j3 K2 (nthv s 0) (nthv s 1) (nthv s 2) (nthv s 3) (nthv s 4) W) (fun J3 =>
oK (idxS 1 x59 x61) fun v63=>
lD W T_int v63 fun v64 W=>
oK (nilP x0) fun v66=>
oA 1 v66 fun v67=>
lD W T_s_int v67 fun v68 W=>
oK (idxS 1 v68 v64) fun v70=>
lD W T_int v70 fun v71 W=>
oK (binP .eql v71 (nI 0)) fun v72=>
ifK v72 (
cL W F_order_finder_visit [x0, v64] fun v75 W=>
oK (nilP x0) fun v77=>
oA 2 v77 fun v78=>
lD (tick W) T_s_int v78 fun v79 W=>
oK (nilP x0) fun v82=>
oA 2 v82 fun v83=>
lD W T_s_int v83 fun v84 W=>
oK (idxS 1 v84 x1) fun v86=>
lD W T_int v86 fun v87 W=>
oK (nilP x0) fun v89=>
oA 2 v89 fun v90=>
lD W T_s_int v90 fun v91 W=>
oK (idxS 1 v91 v64) fun v93=>
lD W T_int v93 fun v94 W=>
oK (foldP min2P [v87, v94]) fun v95=>
oK (idxS 1 v79 x1) fun v96=>
sT W T_int v96 v95 fun _ W=>
J3 [x0, x1, x59, x60, x61] W) (
oK (nilP x0) fun v98=>
oA 4 v98 fun v99=>
lD W T_s_bool v99 fun v100 W=>
oK (idxS 1 v100 v64) fun v102=>
lD W T_bool v102 fun v103 W=>
ifK v103 (
oK (nilP x0) fun v105=>
oA 2 v105 fun v106=>
lD (tick W) T_s_int v106 fun v107 W=>
oK (nilP x0) fun v110=>
oA 2 v110 fun v111=>
lD W T_s_int v111 fun v112 W=>
oK (idxS 1 v112 x1) fun v114=>
lD W T_int v114 fun v115 W=>
oK (nilP x0) fun v117=>
oA 1 v117 fun v118=>
lD W T_s_int v118 fun v119 W=>
oK (idxS 1 v119 v64) fun v121=>
lD W T_int v121 fun v122 W=>
oK (foldP min2P [v115, v122]) fun v123=>
oK (idxS 1 v107 x1) fun v124=>
sT W T_int v124 v123 fun _ W=>
J3 [x0, x1, x59, x60, x61] W) (
J3 [x0, x1, x59, x60, x61] W)))) (
J1 [x0, x1] W)
def S.order_finder_visit.body (R : VK) (v0 v1 : Value) (W : World) : Prop :=
oK (nilP v0) fun v11=>
oA 5 v11 fun v12=>
lD W T_int v12 fun v13 W=>
oK (binP .add v13 (nI 1)) fun v14=>
oK (nilP v0) fun v15=>
oA 5 v15 fun v16=>
sT W T_int v16 v14 fun _ W=>
oK (nilP v0) fun v18=>
oA 1 v18 fun v19=>
lD (tick W) T_s_int v19 fun v20 W=>
oK (nilP v0) fun v23=>
oA 2 v23 fun v24=>
lD W T_s_int v24 fun v25 W=>
oK (nilP v0) fun v28=>
oA 5 v28 fun v29=>
lD W T_int v29 fun v30 W=>
oK (nilP v0) fun v32=>
oA 5 v32 fun v33=>
lD W T_int v33 fun v34 W=>
oK (idxS 1 v20 v1) fun v35=>
sT W T_int v35 v30 fun _ W=>
oK (idxS 1 v25 v1) fun v36=>
sT W T_int v36 v34 fun _ W=>
oK (nilP v0) fun v39=>
oA 3 v39 fun v40=>
lD W T_s_int v40 fun v41 W=>
eF W (Instr.buildSlice T_s_int 1 #[(0, v1)]) fun v43 W=>
eF W (Builtin.append_ #[T_s_int, T_s_int] T_s_int #[v41, v43]) fun v44 W=>
oK (nilP v0) fun v45=>
oA 3 v45 fun v46=>
sT W T_s_int v46 v44 fun _ W=>
oK (nilP v0) fun v48=>
oA 4 v48 fun v49=>
lD W T_s_bool v49 fun v50 W=>
oK (idxS 1 v50 v1) fun v52=>
sT W T_bool v52 (.bool true) fun _ W=>
joinK (fun s W => S.order_finder_visit.j1 R (nthv s 0) (nthv s 1) W) (fun J1 =>
oK (nilP v0) fun v54=>
oA 0 v54 fun v55=>
lD W T_s_s_int v55 fun v56 W=>
oK (idxS 1 v56 v1) fun v58=>
lD W T_s_int v58 fun v59 W=>
oK (lenP (.slice T_int) v59) fun v60=>
loopK (fun K2 s W => S.order_finder_visit.l2 J1 K2 (nthv s 0) (nthv s 1) (nthv s 2) (nthv s 3) (nthv s 4) W) [v0, v1, v59, v60, (nI 0)] W)
theorem S.order_finder_visit.call {R : VK} {v0 v1 : Value} {W : World} (h : S.order_finder_visit.body R v0 v1 W) : callK PR F_order_finder_visit [v0, v1] R W :=
callS (fn := Tryz.f125) (h := (.t (.t (.t (.t (.at [0, 1] (.t (.at [0, 1, 59, 60, 61] (.t (.two (.t .n) (.at [0, 1, 59, 60, 61] (.t (.t (.two (.t .n) (.t (.t .n))))) .n))) .n)) (.two (.t (.t .n)) (.t (.t (.t (.at [0, 7] (.t (.at [0, 7, 164, 165, 166] (.t (.two (.t .n) (.two (.t .n) .n))) .n)) .n))))))))))) h
def S.order_groups.j2 (R : VK) (x4 : Value) (W : World) : Prop :=
oK (nilP x4) fun v35=>
oA 6 v35 fun v36=>
lD W T_s_s_int v36 fun v37 W=>
R v37 W
def S.order_groups.j3 (K1 : LK) (x4 x18 x19 : Value) (W : World) : Prop :=
oK (binP .add x19 (nI 1)) fun v33=>
K1 [x4, x18, v33] W
def S.order_groups.l1 (J2 : LK) (K1 : LK) (x4 x18 x19 : Value) (W : World) : Prop :=
oK (binP .lss x19 x18) fun v20=>
ifK v20 (
joinK (fun s W => S.order_groups.j3 K1 (nthv s 0) (nthv s 1) (nthv s 2) W) (fun J3 =>
oK (nilP x4) fun v23=>
oA 1 v23 fun v24=>
lD W T_s_int v24 fun v25 W=>
oK (idxS 1 v25 x19) fun v27=>
lD W T_int v27 fun v28 W=>
oK (binP .eql v28 (nI 0)) fun v29=>
ifK v29 (
cL W F_order_finder_visit [x4, x19] fun v32 W=>
J3 [x4, x18, x19] W) (
J3 [x4, x18, x19] W))) (
J2 [x4] W)
def S.order_groups.j1 (R : VK) (x0 x4 : Value) (W : World) : Prop :=
joinK (fun s W => S.order_groups.j2 R (nthv s 0) W) (fun J2 =>
oK (lenP (.slice T_s_int) x0) fun v18=>
loopK (fun K1 s W => S.order_groups.l1 J2 K1 (nthv s 0) (nthv s 1) (nthv s 2) W) [x4, v18, (nI 0)] W)
def S.order_groups.body (R : VK) (v0 : Value) (W : World) : Prop :=
oK (lenP (.slice T_s_int) v0) fun v7=>
joinK (fun s W => S.order_groups.j1 R (nthv s 0) (nthv s 1) W) (fun J1 =>
(eF (tick W) (Instr.makeSlice T_s_int v7 v7) fun v10 W=>
(eF W (Instr.makeSlice T_s_int v7 v7) fun v12 W=>
eF W (Instr.makeSlice T_s_bool v7 v7) fun v14 W=>
oK (bldP (fun i => ([(0, 1), (1, 1), (2, 1), (3, 1), (4, 1), (5, 1), (6, 1)] : List (Nat × Nat))[i]?) [.slice none 0 0, .slice none 0 0, .slice none 0 0, .slice none 0 0, .slice none 0 0, .int .i64 0, .slice none 0 0] [(0, v0), (1, v10), (2, v12), (4, v14)]) fun v15=>
eF W (Instr.box T_order_finder v15) fun v16 W=>
J1 [v0, v16] W) ∧ (eF W (Instr.makeSlice T_s_bool v7 v7) fun v14_1 W=>
eF W (Instr.makeSlice T_s_int v7 v7) fun v12_1 W=>
oK (bldP (fun i => ([(0, 1), (1, 1), (2, 1), (3, 1), (4, 1), (5, 1), (6, 1)] : List (Nat × Nat))[i]?) [.slice none 0 0, .slice none 0 0, .slice none 0 0, .slice none 0 0, .slice none 0 0, .int .i64 0, .slice none 0 0] [(0, v0), (1, v10), (2, v12_1), (4, v14_1)]) fun v15_1=>
eF W (Instr.box T_order_finder v15_1) fun v16_1 W=>
J1 [v0, v16_1] W)) ∧ (eF (tick W) (Instr.makeSlice T_s_int v7 v7) fun v12_2 W=>
(eF W (Instr.makeSlice T_s_int v7 v7) fun v10_1 W=>
eF W (Instr.makeSlice T_s_bool v7 v7) fun v14_2 W=>
oK (bldP (fun i => ([(0, 1), (1, 1), (2, 1), (3, 1), (4, 1), (5, 1), (6, 1)] : List (Nat × Nat))[i]?) [.slice none 0 0, .slice none 0 0, .slice none 0 0, .slice none 0 0, .slice none 0 0, .int .i64 0, .slice none 0 0] [(0, v0), (1, v10_1), (2, v12_2), (4, v14_2)]) fun v15_2=>
eF W (Instr.box T_order_finder v15_2) fun v16_2 W=>
J1 [v0, v16_2] W) ∧ (eF W (Instr.makeSlice T_s_bool v7 v7) fun v14_3 W=>
eF W (Instr.makeSlice T_s_int v7 v7) fun v10_2 W=>
oK (bldP (fun i => ([(0, 1), (1, 1), (2, 1), (3, 1), (4, 1), (5, 1), (6, 1)] : List (Nat × Nat))[i]?) [.slice none 0 0, .slice none 0 0, .slice none 0 0, .slice none 0 0, .slice none 0 0, .int .i64 0, .slice none 0 0] [(0, v0), (1, v10_2), (2, v12_2), (4, v14_3)]) fun v15_3=>
eF W (Instr.box T_order_finder v15_3) fun v16_3 W=>
J1 [v0, v16_3] W)) ∧ (eF (tick W) (Instr.makeSlice T_s_bool v7 v7) fun v14_4 W=>
(eF W (Instr.makeSlice T_s_int v7 v7) fun v10_3 W=>
eF W (Instr.makeSlice T_s_int v7 v7) fun v12_3 W=>
oK (bldP (fun i => ([(0, 1), (1, 1), (2, 1), (3, 1), (4, 1), (5, 1), (6, 1)] : List (Nat × Nat))[i]?) [.slice none 0 0, .slice none 0 0, .slice none 0 0, .slice none 0 0, .slice none 0 0, .int .i64 0, .slice none 0 0] [(0, v0), (1, v10_3), (2, v12_3), (4, v14_4)]) fun v15_4=>
eF W (Instr.box T_order_finder v15_4) fun v16_4 W=>
J1 [v0, v16_4] W) ∧ (eF W (Instr.makeSlice T_s_int v7 v7) fun v12_4 W=>
eF W (Instr.makeSlice T_s_int v7 v7) fun v10_4 W=>
oK (bldP (fun i => ([(0, 1), (1, 1), (2, 1), (3, 1), (4, 1), (5, 1), (6, 1)] : List (Nat × Nat))[i]?) [.slice none 0 0, .slice none 0 0, .slice none 0 0, .slice none 0 0, .slice none 0 0, .int .i64 0, .slice none 0 0] [(0, v0), (1, v10_4), (2, v12_4), (4, v14_4)]) fun v15_5=>
eF W (Instr.box T_order_finder v15_5) fun v16_5 W=>
J1 [v0, v16_5] W)))
theorem S.order_groups.call {R : VK} {v0 : Value} {W : World} (h : S.order_groups.body R v0 W) : callK PR F_order_groups [v0] R W :=
callS (fn := Tryz.f103) (h := (.t (.t (.at [0, 4] .n (.at [4] (.t (.at [4, 18, 19] (.t (.two (.t .n) (.at [4, 18, 19] (.t (.t (.t .n))) .n))) .n)) (.t .n)))))) h
def S.order_tie.j3 (R : VK) (x9 : Value) (W : World) : Prop :=
R x9 W
def S.order_tie.j4 (K1 : LK) (x0 x3 x4 x9 x53 x54 x55 : Value) (W : World) : Prop :=
oK (binP .add x55 (nI 1)) fun v120=>
K1 [x0, x3, x4, x9, x53, x54, v120] W
def S.order_tie.j5 (K2 : LK) (x0 x3 x4 x9 x10 x12 x53 x54 x55 x66 x67 x68 : Value) (W : World) : Prop :=
oK (binP .add x68 (nI 1)) fun v119=>
K2 [x0, x3, x4, x9, x10, x12, x53, x54, x55, x66, x67, v119] W
def S.order_tie.j6 (K3 : LK) (x0 x3 x4 x9 x10 x12 x53 x54 x55 x66 x67 x68 x75 x76 x77 : Value) (W : World) : Prop :=
oK (binP .add x77 (nI 1)) fun v118=>
K3 [x0, x3, x4, x9, x10, x12, x53, x54, x55, x66, x67, x68, x75, x76, v118] W
def S.order_tie.l3 (J5 : LK) (K3 : LK) (x0 x3 x4 x9 x10 x12 x53 x54 x55 x66 x67 x68 x75 x76 x77 : Value) (W : World) : Prop :=
oK (binP .lss x77 x76) fun v78=>
ifK v78 (
joinK (fun s W => S.order_tie.j6 K3 (nthv s 0) (nthv s 1) (nthv s 2) (nthv s 3) (nthv s 4) (nthv s 5) (nthv s 6) (nthv s 7) (nthv s 8) (nthv s 9) (nthv s 10) (nthv s 11) (nthv s 12) (nthv s 13) (nthv s 14) W) (fun J6 =>
oK (idxS 1 x75 x77) fun v79=>
lD W T_int v79 fun v80 W=>
oK (idxS 1 x4 v80) fun v83=>
lD W T_int v83 fun v84 W=>
oK (idxS 1 x12 v84) fun v87=>
lD W T_bool v87 fun v88 W=>
oK (unP .not v88) fun v89=>
ifK v89 (
oK (idxS 1 x12 v84) fun v92=>
sT W T_bool v92 (.bool true) fun _ W=>
oK (nilP x9) fun v94=>
oA 1 v94 fun v95=>
lD W T_s_int v95 fun v96 W=>
oK (idxS 1 v96 x10) fun v98=>
lD W T_int v98 fun v99 W=>
oK (binP .add v99 (nI 1)) fun v100=>
oK (idxS 1 v96 x10) fun v101=>
sT W T_int v101 v100 fun _ W=>
oK (nilP x9) fun v103=>
oA 2 v103 fun v104=>
lD (tick W) T_s_s_int v104 fun v105 W=>
oK (nilP x9) fun v108=>
oA 2 v108 fun v109=>
lD W T_s_s_int v109 fun v110 W=>
oK (idxS 1 v110 v84) fun v112=>
lD W T_s_int v112 fun v113 W=>
eF W (Instr.buildSlice T_s_int 1 #[(0, x10)]) fun v115 W=>
sB W [hL 11 T_s_int v112 v113, hL 8 T_s_s_int v109 v110, hL 3 T_s_s_int v104 v105] fun W=>
eF W (Builtin.append_ #[T_s_int, T_s_int] T_s_int #[v113, v115]) fun v116 W=>
sB W [hL 3 T_s_s_int v104 v105] fun W=>
oK (idxS 1 v105 v84) fun v117=>
sT W T_s_int v117 v116 fun _ W=>
J6 [x0, x3, x4, x9, x10, x12, x53, x54, x55, x66, x67, x68, x75, x76, x77] W) (
J6 [x0, x3, x4, x9, x10, x12, x53, x54, x55, x66, x67, x68, x75, x76, x77] W))) (
J5 [x0, x3, x4, x9, x10, x12, x53, x54, x55, x66, x67, x68] W)
def S.order_tie.l2 (J4 : LK) (K2 : LK) (x0 x3 x4 x9 x10 x12 x53 x54 x55 x66 x67 x68 : Value) (W : World) : Prop :=
oK (binP .lss x68 x67) fun v69=>
ifK v69 (
joinK (fun s W => S.order_tie.j5 K2 (nthv s 0) (nthv s 1) (nthv s 2) (nthv s 3) (nthv s 4) (nthv s 5) (nthv s 6) (nthv s 7) (nthv s 8) (nthv s 9) (nthv s 10) (nthv s 11) W) (fun J5 =>
oK (idxS 1 x66 x68) fun v70=>
lD W T_int v70 fun v71 W=>
oK (idxS 1 x0 v71) fun v74=>
lD W T_s_int v74 fun v75 W=>
oK (lenP (.slice T_int) v75) fun v76=>
loopK (fun K3 s W => S.order_tie.l3 J5 K3 (nthv s 0) (nthv s 1) (nthv s 2) (nthv s 3) (nthv s 4) (nthv s 5) (nthv s 6) (nthv s 7) (nthv s 8) (nthv s 9) (nthv s 10) (nthv s 11) (nthv s 12) (nthv s 13) (nthv s 14) W) [x0, x3, x4, x9, x10, x12, x53, x54, x55, x66, x67, x68, v75, v76, (nI 0)] W)) (
J4 [x0, x3, x4, x9, x53, x54, x55] W)
def S.order_tie.l1 (J3 : LK) (K1 : LK) (x0 x3 x4 x9 x53 x54 x55 : Value) (W : World) : Prop :=
oK (binP .lss x55 x54) fun v56=>
ifK v56 (
joinK (fun s W => S.order_tie.j4 K1 (nthv s 0) (nthv s 1) (nthv s 2) (nthv s 3) (nthv s 4) (nthv s 5) (nthv s 6) W) (fun J4 =>
oK (idxS 1 x53 x55) fun v58=>
lD W T_s_int v58 fun v59 W=>
oK (lenP (.slice T_s_int) x3) fun v61=>
eF W (Instr.makeSlice T_s_bool v61 v61) fun v62 W=>
oK (idxS 1 v62 x55) fun v65=>
sT W T_bool v65 (.bool true) fun _ W=>
oK (lenP (.slice T_int) v59) fun v67=>
loopK (fun K2 s W => S.order_tie.l2 J4 K2 (nthv s 0) (nthv s 1) (nthv s 2) (nthv s 3) (nthv s 4) (nthv s 5) (nthv s 6) (nthv s 7) (nthv s 8) (nthv s 9) (nthv s 10) (nthv s 11) W) [x0, x3, x4, x9, x55, v62, x53, x54, x55, v59, v67, (nI 0)] W)) (
J3 [x9] W)
def S.order_tie.j2 (R : VK) (x0 x3 x4 x9 : Value) (W : World) : Prop :=
joinK (fun s W => S.order_tie.j3 R (nthv s 0) W) (fun J3 =>
oK (lenP (.slice T_s_int) x3) fun v54=>
loopK (fun K1 s W => S.order_tie.l1 J3 K1 (nthv s 0) (nthv s 1) (nthv s 2) (nthv s 3) (nthv s 4) (nthv s 5) (nthv s 6) W) [x0, x3, x4, x9, x3, v54, (nI 0)] W)
def S.order_tie.j1 (R : VK) (x0 x3 x4 : Value) (W : World) : Prop :=
joinK (fun s W => S.order_tie.j2 R (nthv s 0) (nthv s 1) (nthv s 2) (nthv s 3) W) (fun J2 =>
oK (lenP (.slice T_s_int) x3) fun v46=>
oK (lenP (.slice T_s_int) x3) fun v49=>
(eF (tick W) (Instr.makeSlice T_s_int v46 v46) fun v47 W=>
eF W (Instr.makeSlice T_s_s_int v49 v49) fun v50 W=>
oK (bldP (fun i => ([(0, 1), (1, 1), (2, 1)] : List (Nat × Nat))[i]?) [.slice none 0 0, .slice none 0 0, .slice none 0 0] [(0, x3), (1, v47), (2, v50)]) fun v51=>
eF W (Instr.box T_order_tied v51) fun v52 W=>
J2 [x0, x3, x4, v52] W) ∧ (eF (tick W) (Instr.makeSlice T_s_s_int v49 v49) fun v50_1 W=>
eF W (Instr.makeSlice T_s_int v46 v46) fun v47_1 W=>
oK (bldP (fun i => ([(0, 1), (1, 1), (2, 1)] : List (Nat × Nat))[i]?) [.slice none 0 0, .slice none 0 0, .slice none 0 0] [(0, x3), (1, v47_1), (2, v50_1)]) fun v51_1=>
eF W (Instr.box T_order_tied v51_1) fun v52_1 W=>
J2 [x0, x3, x4, v52_1] W))
def S.order_tie.j7 (K4 : LK) (x0 x3 x4 x25 x26 x27 : Value) (W : World) : Prop :=
oK (binP .add x27 (nI 1)) fun v43=>
K4 [x0, x3, x4, x25, x26, v43] W
def S.order_tie.l5 (J7 : LK) (K5 : LK) (x0 x3 x4 x5 x25 x26 x27 x32 x33 x34 : Value) (W : World) : Prop :=
oK (binP .lss x34 x33) fun v35=>
ifK v35 (
oK (idxS 1 x32 x34) fun v36=>
lD W T_int v36 fun v37 W=>
oK (idxS 1 x4 v37) fun v41=>
sT W T_int v41 x5 fun _ W=>
oK (binP .add x34 (nI 1)) fun v42=>
K5 [x0, x3, x4, x5, x25, x26, x27, x32, x33, v42] W) (
J7 [x0, x3, x4, x25, x26, x27] W)
def S.order_tie.l4 (J1 : LK) (K4 : LK) (x0 x3 x4 x25 x26 x27 : Value) (W : World) : Prop :=
oK (binP .lss x27 x26) fun v28=>
ifK v28 (
joinK (fun s W => S.order_tie.j7 K4 (nthv s 0) (nthv s 1) (nthv s 2) (nthv s 3) (nthv s 4) (nthv s 5) W) (fun J7 =>
oK (idxS 1 x25 x27) fun v30=>
lD W T_s_int v30 fun v31 W=>
oK (lenP (.slice T_int) v31) fun v33=>
loopK (fun K5 s W => S.order_tie.l5 J7 K5 (nthv s 0) (nthv s 1) (nthv s 2) (nthv s 3) (nthv s 4) (nthv s 5) (nthv s 6) (nthv s 7) (nthv s 8) (nthv s 9) W) [x0, x3, x4, x27, x25, x26, x27, v31, v33, (nI 0)] W)) (
J1 [x0, x3, x4] W)
def S.order_tie.body (R : VK) (v0 : Value) (W : World) : Prop :=
cL W F_order_groups [v0] fun v19 W=>
cL W F_slices_SortFunc_int_int [v19, (.func (.func F_order_tie_1) #[] #[])] fun v21 W=>
oK (lenP (.slice T_s_int) v0) fun v23=>
eF W (Instr.makeSlice T_s_int v23 v23) fun v24 W=>
joinK (fun s W => S.order_tie.j1 R (nthv s 0) (nthv s 1) (nthv s 2) W) (fun J1 =>
oK (lenP (.slice T_s_int) v19) fun v26=>
loopK (fun K4 s W => S.order_tie.l4 J1 K4 (nthv s 0) (nthv s 1) (nthv s 2) (nthv s 3) (nthv s 4) (nthv s 5) W) [v0, v19, v24, v19, v26, (nI 0)] W)
theorem S.order_tie.call {R : VK} {v0 : Value} {W : World} (h : S.order_tie.body R v0 W) : callK PR F_order_tie [v0] R W :=
callS (fn := Tryz.f86) (h := (.t (.t (.t (.t (.at [0, 3, 4] (.t (.at [0, 3, 4, 25, 26, 27] (.t (.two (.t .n) (.at [0, 3, 4, 25, 26, 27] (.t (.t (.at [0, 3, 4, 5, 25, 26, 27, 32, 33, 34] (.t (.two (.t .n) (.two (.t .n) .n))) .n))) .n))) .n)) (.at [0, 3, 4, 9] .n (.at [9] (.t (.at [0, 3, 4, 9, 53, 54, 55] (.t (.two (.t .n) (.at [0, 3, 4, 9, 53, 54, 55] (.t (.t (.t (.t (.at [0, 3, 4, 9, 10, 12, 53, 54, 55, 66, 67, 68] (.t (.two (.t .n) (.at [0, 3, 4, 9, 10, 12, 53, 54, 55, 66, 67, 68] (.t (.t (.at [0, 3, 4, 9, 10, 12, 53, 54, 55, 66, 67, 68, 75, 76, 77] (.t (.two (.t .n) (.at [0, 3, 4, 9, 10, 12, 53, 54, 55, 66, 67, 68, 75, 76, 77] (.t (.t (.t (.two (.t (.t .n)) .n)))) .n))) .n))) .n))) .n))))) .n))) .n)) (.t .n))))))))) h
def S.order_tie_1.body (R : VK) (v0 v1 : Value) (W : World) : Prop :=
oK (idxS 1 v0 (nI 0)) fun v6=>
lD (tick W) T_int v6 fun v7 W=>
oK (idxS 1 v1 (nI 0)) fun v9=>
lD W T_int v9 fun v10 W=>
cL W F_cmp_Compare_int [v7, v10] fun v11 W=>
R v11 W
theorem S.order_tie_1.call {R : VK} {v0 v1 : Value} {W : World} (h : S.order_tie_1.body R v0 v1 W) : callK PR F_order_tie_1 [v0, v1] R W :=
callS (fn := Tryz.f105) (h := (.t (.t .n))) h
def S.order_line.j1 (R : VK) (x4 : Value) (W : World) : Prop :=
R x4 W
def S.order_line.j2 (K1 : LK) (x3 x4 x14 x15 : Value) (W : World) : Prop :=
oK (binP .add x15 (nI 1)) fun v59=>
K1 [x3, x4, x14, v59] W
def S.order_line.l2 (J2 : LK) (K2 : LK) (x3 x4 x14 x15 x43 x44 x45 : Value) (W : World) : Prop :=
oK (binP .lss x45 x44) fun v46=>
ifK v46 (
oK (idxS 1 x43 x45) fun v47=>
lD W T_int v47 fun v48 W=>
oK (nilP x3) fun v50=>
oA 1 v50 fun v51=>
lD W T_s_int v51 fun v52 W=>
oK (idxS 1 v52 v48) fun v54=>
lD W T_int v54 fun v55 W=>
oK (binP .sub v55 (nI 1)) fun v56=>
oK (idxS 1 v52 v48) fun v57=>
sT W T_int v57 v56 fun _ W=>
oK (binP .add x45 (nI 1)) fun v58=>
K2 [x3, x4, x14, x15, x43, x44, v58] W) (
J2 [x3, x4, x14, x15] W)
def S.order_line.l1 (J1 : LK) (K1 : LK) (x3 x4 x14 x15 : Value) (W : World) : Prop :=
oK (binP .lss x15 x14) fun v16=>
ifK v16 (
joinK (fun s W => S.order_line.j2 K1 (nthv s 0) (nthv s 1) (nthv s 2) (nthv s 3) W) (fun J2 =>
oK (nilP x3) fun v18=>
oA 1 v18 fun v19=>
lD W T_s_int v19 fun v20 W=>
cL W F_slices_Index_int_int [v20, (nI 0)] fun v21 W=>
oK (nilP x3) fun v23=>
oA 1 v23 fun v24=>
lD W T_s_int v24 fun v25 W=>
oK (idxS 1 v25 v21) fun v27=>
sT W T_int v27 (nI (-1)) fun _ W=>
oK (nilP x3) fun v30=>
oA 0 v30 fun v31=>
lD W T_s_s_int v31 fun v32 W=>
oK (idxS 1 v32 v21) fun v34=>
lD W T_s_int v34 fun v35 W=>
eF W (Builtin.append_ #[T_s_int, T_s_int] T_s_int #[x4, v35]) fun v36 W=>
oK (nilP x3) fun v38=>
oA 2 v38 fun v39=>
lD W T_s_s_int v39 fun v40 W=>
oK (idxS 1 v40 v21) fun v42=>
lD W T_s_int v42 fun v43 W=>
oK (lenP (.slice T_int) v43) fun v44=>
loopK (fun K2 s W => S.order_line.l2 J2 K2 (nthv s 0) (nthv s 1) (nthv s 2) (nthv s 3) (nthv s 4) (nthv s 5) (nthv s 6) W) [x3, v36, x14, x15, v43, v44, (nI 0)] W)) (
J1 [x4] W)
def S.order_line.body (R : VK) (v0 : Value) (W : World) : Prop :=
cL W F_order_tie [v0] fun v9 W=>
joinK (fun s W => S.order_line.j1 R (nthv s 0) W) (fun J1 =>
oK (nilP v9) fun v11=>
oA 0 v11 fun v12=>
lD W T_s_s_int v12 fun v13 W=>
oK (lenP (.slice T_s_int) v13) fun v14=>
loopK (fun K1 s W => S.order_line.l1 J1 K1 (nthv s 0) (nthv s 1) (nthv s 2) (nthv s 3) W) [v9, (.slice none 0 0), v14, (nI 0)] W)
theorem S.order_line.call {R : VK} {v0 : Value} {W : World} (h : S.order_line.body R v0 W) : callK PR F_order_line [v0] R W :=
callS (fn := Tryz.f53) (h := (.t (.t (.t (.at [4] (.t (.at [3, 4, 14, 15] (.t (.two (.t .n) (.at [3, 4, 14, 15] (.t (.t (.t (.t (.at [3, 4, 14, 15, 43, 44, 45] (.t (.two (.t .n) (.two (.t .n) .n))) .n))))) .n))) .n)) (.t .n)))))) h
def S.order_kept.j3 (R : VK) (x17 : Value) (W : World) : Prop :=
R x17 W
def S.order_kept.j4 (K1 : LK) (x8 x17 x106 x107 x108 : Value) (W : World) : Prop :=
oK (binP .add x108 (nI 1)) fun v122=>
K1 [x8, x17, x106, x107, v122] W
def S.order_kept.l1 (J3 : LK) (K1 : LK) (x8 x17 x106 x107 x108 : Value) (W : World) : Prop :=
oK (binP .lss x108 x107) fun v109=>
ifK v109 (
joinK (fun s W => S.order_kept.j4 K1 (nthv s 0) (nthv s 1) (nthv s 2) (nthv s 3) (nthv s 4) W) (fun J4 =>
oK (idxS 10 x106 x108) fun v111=>
lD W T_order_Inst v111 fun v112 W=>
eF W (Instr.alloc T_order_Inst true (.tuple #[])) fun v19 W=>
sT W T_order_Inst v19 v112 fun _ W=>
oK (idxS 1 x8 x108) fun v115=>
lD W T_bool v115 fun v116 W=>
oK (unP .not v116) fun v117=>
ifK v117 (
lD W T_order_Inst v19 fun v119 W=>
eF W (Instr.buildSlice T_s_order_Inst 1 #[(0, v119)]) fun v120 W=>
eF W (Builtin.append_ #[T_s_order_Inst, T_s_order_Inst] T_s_order_Inst #[x17, v120]) fun v121 W=>
J4 [x8, v121, x106, x107, x108] W) (
J4 [x8, x17, x106, x107, x108] W))) (
J3 [x17] W)
def S.order_kept.j2 (R : VK) (x5 x8 : Value) (W : World) : Prop :=
joinK (fun s W => S.order_kept.j3 R (nthv s 0) W) (fun J3 =>
lD W T_p_order_web x5 fun v103 W=>
oK (nilP v103) fun v104=>
oA 0 v104 fun v105=>
lD W T_s_order_Inst v105 fun v106 W=>
oK (lenP (.slice T_order_Inst) v106) fun v107=>
loopK (fun K1 s W => S.order_kept.l1 J3 K1 (nthv s 0) (nthv s 1) (nthv s 2) (nthv s 3) (nthv s 4) W) [x8, (.slice none 0 0), v106, v107, (nI 0)] W)
def S.order_kept.j5 (K2 : LK) (x5 x7 x8 x9 x14 : Value) (W : World) : Prop :=
oK (binP .add x14 (nI 1)) fun v77=>
K2 [x5, x7, x8, x9, v77] W
def S.order_kept.j6 (K3 : LK) (x5 x7 x8 x9 x14 x84 x85 x86 : Value) (W : World) : Prop :=
oK (binP .add x86 (nI 1)) fun v102=>
K3 [x5, x7, x8, x9, x14, x84, x85, v102] W
def S.order_kept.l3 (J5 : LK) (K3 : LK) (x5 x7 x8 x9 x14 x84 x85 x86 : Value) (W : World) : Prop :=
oK (binP .lss x86 x85) fun v87=>
ifK v87 (
joinK (fun s W => S.order_kept.j6 K3 (nthv s 0) (nthv s 1) (nthv s 2) (nthv s 3) (nthv s 4) (nthv s 5) (nthv s 6) (nthv s 7) W) (fun J6 =>
oK (idxS 1 x84 x86) fun v88=>
lD W T_int v88 fun v89 W=>
oK (idxS 1 x8 v89) fun v92=>
lD W T_bool v92 fun v93 W=>
oK (unP .not v93) fun v94=>
ifK v94 (
oK (idxS 1 x8 v89) fun v97=>
sT W T_bool v97 (.bool true) fun _ W=>
eF W (Instr.buildSlice T_s_int 1 #[(0, v89)]) fun v100 W=>
eF W (Builtin.append_ #[T_s_int, T_s_int] T_s_int #[x9, v100]) fun v101 W=>
J6 [x5, x7, x8, v101, x14, x84, x85, x86] W) (
J6 [x5, x7, x8, x9, x14, x84, x85, x86] W))) (
J5 [x5, x7, x8, x9, x14] W)
def S.order_kept.l2 (J2 : LK) (K2 : LK) (x5 x7 x8 x9 x14 : Value) (W : World) : Prop :=
oK (lenP (.slice T_int) x9) fun v74=>
oK (binP .lss x14 v74) fun v75=>
ifK v75 (
joinK (fun s W => S.order_kept.j5 K2 (nthv s 0) (nthv s 1) (nthv s 2) (nthv s 3) (nthv s 4) W) (fun J5 =>
oK (idxS 1 x9 x14) fun v81=>
lD W T_int v81 fun v82 W=>
oK (idxS 1 x7 v82) fun v83=>
lD W T_s_int v83 fun v84 W=>
oK (lenP (.slice T_int) v84) fun v85=>
loopK (fun K3 s W => S.order_kept.l3 J5 K3 (nthv s 0) (nthv s 1) (nthv s 2) (nthv s 3) (nthv s 4) (nthv s 5) (nthv s 6) (nthv s 7) W) [x5, x7, x8, x9, x14, v84, v85, (nI 0)] W)) (
J2 [x5, x8] W)
def S.order_kept.j1 (R : VK) (x5 x7 x8 x9 : Value) (W : World) : Prop :=
joinK (fun s W => S.order_kept.j2 R (nthv s 0) (nthv s 1) W) (fun J2 =>
loopK (fun K2 s W => S.order_kept.l2 J2 K2 (nthv s 0) (nthv s 1) (nthv s 2) (nthv s 3) (nthv s 4) W) [x5, x7, x8, x9, (nI 0)] W)
def S.order_kept.j7 (K4 : LK) (x3 x5 x6 x7 x8 x9 x34 x35 : Value) (W : World) : Prop :=
oK (binP .add x35 (nI 1)) fun v71=>
K4 [x3, x5, x6, x7, x8, x9, x34, v71] W
def S.order_kept.j8 (J7 : LK) (x3 x5 x6 x7 x8 x9 x10 x34 x35 : Value) (W : World) : Prop :=
lD W T_p_order_web x5 fun v59 W=>
cL W F_order_web_each [v59, x10, (.func (.func F_order_kept_1) #[] #[x5, x3])] fun v62 W=>
oK (unP .not v62) fun v63=>
ifK v63 (
oK (idxS 1 x8 x10) fun v66=>
sT W T_bool v66 (.bool true) fun _ W=>
eF W (Instr.buildSlice T_s_int 1 #[(0, x10)]) fun v69 W=>
eF W (Builtin.append_ #[T_s_int, T_s_int] T_s_int #[x9, v69]) fun v70 W=>
J7 [x3, x5, x6, x7, x8, v70, x34, x35] W) (
J7 [x3, x5, x6, x7, x8, x9, x34, x35] W)
def S.order_kept.l5 (J8 : LK) (K5 : LK) (x3 x5 x6 x7 x8 x9 x10 x34 x35 x41 x42 x43 : Value) (W : World) : Prop :=
oK (binP .lss x43 x42) fun v44=>
ifK v44 (
oK (idxS 1 x41 x43) fun v45=>
lD W T_int v45 fun v46 W=>
oK (idxS 1 x7 v46) fun v51=>
lD W T_s_int v51 fun v52 W=>
eF W (Instr.buildSlice T_s_int 1 #[(0, x10)]) fun v54 W=>
eF W (Builtin.append_ #[T_s_int, T_s_int] T_s_int #[v52, v54]) fun v55 W=>
oK (idxS 1 x7 v46) fun v56=>
sT W T_s_int v56 v55 fun _ W=>
oK (binP .add x43 (nI 1)) fun v57=>
K5 [x3, x5, x6, x7, x8, x9, x10, x34, x35, x41, x42, v57] W) (
J8 [x3, x5, x6, x7, x8, x9, x10, x34, x35] W)
def S.order_kept.l4 (J1 : LK) (K4 : LK) (x3 x5 x6 x7 x8 x9 x34 x35 : Value) (W : World) : Prop :=
oK (binP .lss x35 x34) fun v36=>
ifK v36 (
joinK (fun s W => S.order_kept.j7 K4 (nthv s 0) (nthv s 1) (nthv s 2) (nthv s 3) (nthv s 4) (nthv s 5) (nthv s 6) (nthv s 7) W) (fun J7 =>
joinK (fun s W => S.order_kept.j8 J7 (nthv s 0) (nthv s 1) (nthv s 2) (nthv s 3) (nthv s 4) (nthv s 5) (nthv s 6) (nthv s 7) (nthv s 8) W) (fun J8 =>
oK (idxS 1 x6 x35) fun v40=>
lD W T_s_int v40 fun v41 W=>
oK (lenP (.slice T_int) v41) fun v42=>
loopK (fun K5 s W => S.order_kept.l5 J8 K5 (nthv s 0) (nthv s 1) (nthv s 2) (nthv s 3) (nthv s 4) (nthv s 5) (nthv s 6) (nthv s 7) (nthv s 8) (nthv s 9) (nthv s 10) (nthv s 11) W) [x3, x5, x6, x7, x8, x9, x35, x34, x35, v41, v42, (nI 0)] W))) (
J1 [x5, x7, x8, x9] W)
def S.order_kept.body (R : VK) (v0 v1 : Value) (W : World) : Prop :=
eF W (Instr.box T_t82 v1) fun v3 W=>
cL W F_order_weave [v0] fun v21 W=>
eF W (Instr.alloc T_p_order_web true (.tuple #[])) fun v5 W=>
sT W T_p_order_web v5 v21 fun _ W=>
lD W T_p_order_web v5 fun v22 W=>
cL W F_order_web_on [v22] fun v23 W=>
oK (lenP (.slice T_order_Inst) v0) fun v25=>
eF W (Instr.makeSlice T_s_s_int v25 v25) fun v26 W=>
oK (lenP (.slice T_order_Inst) v0) fun v28=>
eF W (Instr.makeSlice T_s_bool v28 v28) fun v29 W=>
joinK (fun s W => S.order_kept.j1 R (nthv s 0) (nthv s 1) (nthv s 2) (nthv s 3) W) (fun J1 =>
lD W T_p_order_web v5 fun v30 W=>
oK (nilP v30) fun v31=>
oA 0 v31 fun v32=>
lD W T_s_order_Inst v32 fun v33 W=>
oK (lenP (.slice T_order_Inst) v33) fun v34=>
loopK (fun K4 s W => S.order_kept.l4 J1 K4 (nthv s 0) (nthv s 1) (nthv s 2) (nthv s 3) (nthv s 4) (nthv s 5) (nthv s 6) (nthv s 7) W) [v3, v5, v23, v26, v29, (.slice none 0 0), v34, (nI 0)] W)
theorem S.order_kept.call {R : VK} {v0 v1 : Value} {W : World} (h : S.order_kept.body R v0 v1 W) : callK PR F_order_kept [v0, v1] R W :=
callS (fn := Tryz.f51) (h := (.t (.t (.t (.t (.t (.t (.at [5, 7, 8, 9] (.t (.at [3, 5, 6, 7, 8, 9, 34, 35] (.t (.two (.t .n) (.at [3, 5, 6, 7, 8, 9, 34, 35] (.t (.at [3, 5, 6, 7, 8, 9, 10, 34, 35] (.t (.at [3, 5, 6, 7, 8, 9, 10, 34, 35, 41, 42, 43] (.t (.two (.t .n) (.two (.t .n) .n))) .n)) (.t (.t (.two (.t .n) .n))))) .n))) .n)) (.at [5, 8] (.t (.at [5, 7, 8, 9, 14] (.two (.t (.t .n)) (.at [5, 7, 8, 9, 14] (.t (.at [5, 7, 8, 9, 14, 84, 85, 86] (.t (.two (.t .n) (.at [5, 7, 8, 9, 14, 84, 85, 86] (.t (.t (.two (.t .n) .n))) .n))) .n)) .n)) .n)) (.t (.at [17] (.t (.at [8, 17, 106, 107, 108] (.t (.two (.t .n) (.at [8, 17, 106, 107, 108] (.t (.t (.t .n))) .n))) .n)) (.t .n)))))))))))) h
def S.order_kept_1.body (R : VK) (v0 v1 v2 : Value) (W : World) : Prop :=
eF W (Instr.box T_api_Dot v0) fun v3 W=>
lD (tick W) T_p_order_web v1 fun v8 W=>
oK (nilP v8) fun v9=>
oA 1 v9 fun v10=>
lD W T_m_api_Dot_int v10 fun v11 W=>
lD W T_api_Dot v3 fun v12 W=>
rD W (Instr.lookup T_m_api_Dot_int v11 v12 true) fun v13 W=>
oK (extP 0 v13) fun v14=>
oK (extP 1 v13) fun v15=>
gL W v15 false T_t82 v2 fun v18 W=>
gL W v15 false T_api_Dot v3 fun v19 W=>
gV W v15 false v18 [v19] fun v20 W=>
oK (pickP v15 (.bool true) v20) fun v21=>
R v21 W
theorem S.order_kept_1.call {R : VK} {v0 v1 v2 : Value} {W : World} (h : S.order_kept_1.body R v0 v1 v2 W) : callK PR F_order_kept_1 [v0, v1, v2] R W :=
callS (fn := Tryz.f84) (h := (.t (.t (.t .n)))) h
def S.order_web_dots.j1 (R : VK) (x5 : Value) (W : World) : Prop :=
R x5 W
def S.order_web_dots.l1 (J1 : LK) (K1 : LK) (x0 x5 x8 x9 x10 : Value) (W : World) : Prop :=
oK (binP .lss x10 x9) fun v11=>
ifK v11 (
oK (idxS 1 x8 x10) fun v12=>
lD W T_int v12 fun v13 W=>
oK (nilP x0) fun v16=>
oA 0 v16 fun v17=>
lD W T_s_order_Inst v17 fun v18 W=>
oK (idxS 10 v18 v13) fun v20=>
oA 0 v20 fun v21=>
lD W T_api_Dot v21 fun v22 W=>
eF W (Instr.buildSlice T_s_api_Dot 1 #[(0, v22)]) fun v23 W=>
eF W (Builtin.append_ #[T_s_api_Dot, T_s_api_Dot] T_s_api_Dot #[x5, v23]) fun v24 W=>
oK (binP .add x10 (nI 1)) fun v25=>
K1 [x0, v24, x8, x9, v25] W) (
J1 [x5] W)
def S.order_web_dots.body (R : VK) (v0 v1 : Value) (W : World) : Prop :=
joinK (fun s W => S.order_web_dots.j1 R (nthv s 0) W) (fun J1 =>
oK (lenP (.slice T_int) v1) fun v9=>
loopK (fun K1 s W => S.order_web_dots.l1 J1 K1 (nthv s 0) (nthv s 1) (nthv s 2) (nthv s 3) (nthv s 4) W) [v0, (.slice none 0 0), v1, v9, (nI 0)] W)
theorem S.order_web_dots.call {R : VK} {v0 v1 : Value} {W : World} (h : S.order_web_dots.body R v0 v1 W) : callK PR F_order_web_dots [v0, v1] R W :=
callS (fn := Tryz.f52) (h := (.t (.t (.at [5] (.t (.at [0, 5, 8, 9, 10] (.t (.two (.t .n) (.two (.t .n) .n))) .n)) (.t .n))))) h
def S.order_Line.j1 (R : VK) (x0 x4 x7 : Value) (W : World) : Prop :=
eF W (Instr.alloc T_t82 true (.tuple #[])) fun v10 W=>
sT W T_t82 v10 (.func (.func F_order_Line_1) #[] #[x4, x7]) fun _ W=>
cL W F_slices_Clone_order_Inst_order_Inst [x0] fun v28 W=>
cL W F_slices_DeleteFunc_order_Inst_order_Inst [v28, (.func (.func F_order_Line_2) #[] #[v10])] fun v30 W=>
lD W T_t82 v10 fun v32 W=>
cL W F_order_kept [v30, v32] fun v33 W=>
cL W F_order_weave [v33] fun v34 W=>
cL W F_order_web_on [v34] fun v37 W=>
cL W F_order_line [v37] fun v38 W=>
cL W F_order_web_dots [v34, v38] fun v39 W=>
R v39 W
def S.order_Line.l1 (J1 : LK) (K1 : LK) (x0 x4 x7 x17 x18 x19 : Value) (W : World) : Prop :=
oK (binP .lss x19 x18) fun v20=>
ifK v20 (
oK (idxS 2 x17 x19) fun v21=>
lD W T_api_Dot v21 fun v22 W=>
eF W (Instr.alloc T_api_Dot true (.tuple #[])) fun v9 W=>
sT W T_api_Dot v9 v22 fun _ W=>
lD W T_m_api_Dot_bool x7 fun v23 W=>
lD W T_api_Dot v9 fun v24 W=>
eU W (Instr.mapUpdate T_m_api_Dot_bool v23 v24 (.bool true)) fun _ W=>
oK (binP .add x19 (nI 1)) fun v25=>
K1 [x0, x4, x7, x17, x18, v25] W) (
J1 [x0, x4, x7] W)
def S.order_Line.body (R : VK) (v0 v1 v2 : Value) (W : World) : Prop :=
eF W (Instr.box T_a7_int64 v1) fun v4 W=>
cL W F_order_Good [v0] fun v14 W=>
oK (unP .not v14) fun v15=>
ifK v15 (
R (.slice none 0 0) W) (
eF W (Instr.makeMap T_m_api_Dot_bool none) fun v16 W=>
eF W (Instr.alloc T_m_api_Dot_bool true (.tuple #[])) fun v7 W=>
sT W T_m_api_Dot_bool v7 v16 fun _ W=>
joinK (fun s W => S.order_Line.j1 R (nthv s 0) (nthv s 1) (nthv s 2) W) (fun J1 =>
oK (lenP (.slice T_api_Dot) v2) fun v18=>
loopK (fun K1 s W => S.order_Line.l1 J1 K1 (nthv s 0) (nthv s 1) (nthv s 2) (nthv s 3) (nthv s 4) (nthv s 5) W) [v0, v4, v7, v2, v18, (nI 0)] W))
theorem S.order_Line.call {R : VK} {v0 v1 v2 : Value} {W : World} (h : S.order_Line.body R v0 v1 v2 W) : callK PR F_order_Line [v0, v1, v2] R W :=
callS (fn := Tryz.f28) (h := (.t (.two (.t (.two (.t .n) .n)) (.t (.at [0, 4, 7] (.t (.at [0, 4, 7, 17, 18, 19] (.t (.two (.t .n) (.two (.t .n) .n))) .n)) (.t (.t (.t (.t .n))))))))) h
def S.order_Line_1.body (R : VK) (v0 v1 v2 : Value) (W : World) : Prop :=
eF W (Instr.box T_api_Dot v0) fun v3 W=>
oA 1 v3 fun v5=>
lD (tick W) T_int64 v5 fun v6 W=>
oA 0 v3 fun v7=>
lD W T_int v7 fun v8 W=>
oK (idxA 7 1 v1 v8) fun v9=>
lD W T_int64 v9 fun v10 W=>
oK (binP .leq v6 v10) fun v11=>
gL W v11 false T_m_api_Dot_bool v2 fun v13 W=>
gL W v11 false T_api_Dot v3 fun v14 W=>
gR W v11 false (Instr.lookup T_m_api_Dot_bool v13 v14 false) fun v15 W=>
oK (pickP v11 (.bool true) v15) fun v16=>
R v16 W
theorem S.order_Line_1.call {R : VK} {v0 v1 v2 : Value} {W : World} (h : S.order_Line_1.body R v0 v1 v2 W) : callK PR F_order_Line_1 [v0, v1, v2] R W :=
callS (fn := Tryz.f46) (h := (.t (.t .n))) h
def S.order_Line_2.body (R : VK) (v0 v1 : Value) (W : World) : Prop :=
eF W (Instr.box T_order_Inst v0) fun v2 W=>
lD W T_t82 v1 fun v4 W=>
oA 0 v2 fun v5=>
lD W T_api_Dot v5 fun v6 W=>
vC W v4 [v6] fun v7 W=>
R v7 W
theorem S.order_Line_2.call {R : VK} {v0 v1 : Value} {W : World} (h : S.order_Line_2.body R v0 v1 W) : callK PR F_order_Line_2 [v0, v1] R W :=
callS (fn := Tryz.f49) (h := (.t (.t .n))) h
end Go.Proofs.YtfhacbhgmnhmlaaGreat
namespace Go.Proofs.YtfhacbhgmnhmlaaGreat
set_option linter.unusedVariables false
set_option linter.unusedSimpArgs false
open Go Go.Proofs Go.Shelf
def laySortIns_ren : Go.Shelf.Ren := ⟨fun | 6 => 82 | 15 => 99 | 14 => 102 | 28 => 115 | 29 => 116 | 20 => 117 | 21 => 118 | 22 => 119 | 23 => 120 | 24 => 121 | 25 => 122 | 26 => 123 | 27 => 124 | 46 => 132 | 47 => 128 | 48 => 129 | 49 => 133 | 50 => 134 | 57 => 146 | n => n, fun | 22 => 73 | 24 => 75 | 25 => 142 | 3 => 3 | 39 => 163 | 0 => 0 | 53 => 177 | 55 => 179 | 4 => 4 | 46 => 171 | 45 => 170 | 50 => 147 | 5 => 5 | 9 => 9 | 66 => 189 | 70 => 193 | 76 => 206 | 77 => 207 | n => n, fun | n => n⟩
theorem laySortIns : Go.Proofs.SlLaysF0.n6 Tryz.prog laySortIns_ren := {
 mixed := by kernel_rfl
 f6 := ⟨Tryz.f82.name, by decide, Tryz.func82.trans (congrArg some (by kernel_rfl))⟩
 f14 := ⟨Tryz.f102.name, by decide, Tryz.func102.trans (congrArg some (by kernel_rfl))⟩
 f15 := Tryz.func99.trans (congrArg some (by kernel_rfl))
 f20 := ⟨Tryz.f117.name, by decide, Tryz.func117.trans (congrArg some (by kernel_rfl))⟩
 f21 := ⟨Tryz.f118.name, by decide, Tryz.func118.trans (congrArg some (by kernel_rfl))⟩
 f22 := ⟨Tryz.f119.name, by decide, Tryz.func119.trans (congrArg some (by kernel_rfl))⟩
 f23 := ⟨Tryz.f120.name, by decide, Tryz.func120.trans (congrArg some (by kernel_rfl))⟩
 f24 := ⟨Tryz.f121.name, by decide, Tryz.func121.trans (congrArg some (by kernel_rfl))⟩
 f25 := ⟨Tryz.f122.name, by decide, Tryz.func122.trans (congrArg some (by kernel_rfl))⟩
 f26 := ⟨Tryz.f123.name, by decide, Tryz.func123.trans (congrArg some (by kernel_rfl))⟩
 f27 := ⟨Tryz.f124.name, by decide, Tryz.func124.trans (congrArg some (by kernel_rfl))⟩
 f28 := Tryz.func115.trans (congrArg some (by kernel_rfl))
 f29 := Tryz.func116.trans (congrArg some (by kernel_rfl))
 f46 := ⟨Tryz.f132.name, by decide, Tryz.func132.trans (congrArg some (by kernel_rfl))⟩
 f47 := Tryz.func128.trans (congrArg some (by kernel_rfl))
 f48 := Tryz.func129.trans (congrArg some (by kernel_rfl))
 f49 := ⟨Tryz.f133.name, by decide, Tryz.func133.trans (congrArg some (by kernel_rfl))⟩
 f50 := ⟨Tryz.f134.name, by decide, Tryz.func134.trans (congrArg some (by kernel_rfl))⟩
 f57 := ⟨Tryz.f146.name, by decide, Tryz.func146.trans (congrArg some (by kernel_rfl))⟩
 t0 := Tryz.underlying0
 a0 := Tryz.isAgg0
 z0 := Tryz.sizeOf0
 v0 := Tryz.zeroValue0
 t3 := Tryz.underlying3
 a3 := Tryz.isAgg3
 z3 := Tryz.sizeOf3
 v3 := Tryz.zeroValue3
 t4 := Tryz.underlying4
 a4 := Tryz.isAgg4
 z4 := Tryz.sizeOf4
 v4 := Tryz.zeroValue4
 t5 := Tryz.underlying5
 a5 := Tryz.isAgg5
 z5 := Tryz.sizeOf5
 v5 := Tryz.zeroValue5
 t9 := Tryz.underlying9
 a9 := Tryz.isAgg9
 z9 := Tryz.sizeOf9
 v9 := Tryz.zeroValue9
 t22 := Tryz.underlying73
 a22 := Tryz.isAgg73
 z22 := Tryz.sizeOf73
 v22 := Tryz.zeroValue73
 t25 := Tryz.underlying142
 a25 := Tryz.isAgg142
 z25 := Tryz.sizeOf142
 v25 := Tryz.zeroValue142
 t39 := Tryz.underlying163
 a39 := Tryz.isAgg163
 z39 := Tryz.sizeOf163
 v39 := Tryz.zeroValue163
 t45 := Tryz.underlying170
 a45 := Tryz.isAgg170
 z45 := Tryz.sizeOf170
 v45 := Tryz.zeroValue170
 t46 := Tryz.underlying171
 a46 := Tryz.isAgg171
 z46 := Tryz.sizeOf171
 v46 := Tryz.zeroValue171
 t50 := Tryz.underlying147
 a50 := Tryz.isAgg147
 z50 := Tryz.sizeOf147
 v50 := Tryz.zeroValue147
 t53 := Tryz.underlying177
 a53 := Tryz.isAgg177
 z53 := Tryz.sizeOf177
 v53 := Tryz.zeroValue177
 t55 := Tryz.underlying179
 a55 := Tryz.isAgg179
 z55 := Tryz.sizeOf179
 v55 := Tryz.zeroValue179
 t66 := Tryz.underlying189
 a66 := Tryz.isAgg189
 z66 := Tryz.sizeOf189
 v66 := Tryz.zeroValue189
 t70 := Tryz.underlying193
 a70 := Tryz.isAgg193
 z70 := Tryz.sizeOf193
 v70 := Tryz.zeroValue193
 t76 := Tryz.underlying206
 a76 := Tryz.isAgg206
 z76 := Tryz.sizeOf206
 v76 := Tryz.zeroValue206
 t77 := Tryz.underlying207
 a77 := Tryz.isAgg207
 z77 := Tryz.sizeOf207
 v77 := Tryz.zeroValue207 }
def laySortGrp_ren : Go.Shelf.Ren := ⟨fun | 6 => 104 | 15 => 99 | 14 => 126 | 28 => 115 | 29 => 116 | 20 => 137 | 21 => 138 | 22 => 139 | 23 => 140 | 24 => 141 | 25 => 142 | 26 => 143 | 27 => 144 | 46 => 150 | 47 => 128 | 48 => 129 | 49 => 151 | 50 => 152 | 57 => 155 | n => n, fun | 22 => 116 | 24 => 114 | 25 => 168 | 3 => 3 | 39 => 163 | 0 => 0 | 53 => 177 | 55 => 179 | 4 => 4 | 46 => 171 | 45 => 170 | 50 => 147 | 5 => 5 | 9 => 9 | 66 => 189 | 70 => 193 | 76 => 206 | 77 => 207 | n => n, fun | n => n⟩
theorem laySortGrp : Go.Proofs.SlLaysF.n6 Tryz.prog laySortGrp_ren := {
 mixed := by kernel_rfl
 f6 := ⟨Tryz.f104.name, by decide, Tryz.func104.trans (congrArg some (by kernel_rfl))⟩
 f14 := ⟨Tryz.f126.name, by decide, Tryz.func126.trans (congrArg some (by kernel_rfl))⟩
 f15 := Tryz.func99.trans (congrArg some (by kernel_rfl))
 f20 := ⟨Tryz.f137.name, by decide, Tryz.func137.trans (congrArg some (by kernel_rfl))⟩
 f21 := ⟨Tryz.f138.name, by decide, Tryz.func138.trans (congrArg some (by kernel_rfl))⟩
 f22 := ⟨Tryz.f139.name, by decide, Tryz.func139.trans (congrArg some (by kernel_rfl))⟩
 f23 := ⟨Tryz.f140.name, by decide, Tryz.func140.trans (congrArg some (by kernel_rfl))⟩
 f24 := ⟨Tryz.f141.name, by decide, Tryz.func141.trans (congrArg some (by kernel_rfl))⟩
 f25 := ⟨Tryz.f142.name, by decide, Tryz.func142.trans (congrArg some (by kernel_rfl))⟩
 f26 := ⟨Tryz.f143.name, by decide, Tryz.func143.trans (congrArg some (by kernel_rfl))⟩
 f27 := ⟨Tryz.f144.name, by decide, Tryz.func144.trans (congrArg some (by kernel_rfl))⟩
 f28 := Tryz.func115.trans (congrArg some (by kernel_rfl))
 f29 := Tryz.func116.trans (congrArg some (by kernel_rfl))
 f46 := ⟨Tryz.f150.name, by decide, Tryz.func150.trans (congrArg some (by kernel_rfl))⟩
 f47 := Tryz.func128.trans (congrArg some (by kernel_rfl))
 f48 := Tryz.func129.trans (congrArg some (by kernel_rfl))
 f49 := ⟨Tryz.f151.name, by decide, Tryz.func151.trans (congrArg some (by kernel_rfl))⟩
 f50 := ⟨Tryz.f152.name, by decide, Tryz.func152.trans (congrArg some (by kernel_rfl))⟩
 f57 := ⟨Tryz.f155.name, by decide, Tryz.func155.trans (congrArg some (by kernel_rfl))⟩
 t0 := Tryz.underlying0
 a0 := Tryz.isAgg0
 z0 := Tryz.sizeOf0
 v0 := Tryz.zeroValue0
 t3 := Tryz.underlying3
 a3 := Tryz.isAgg3
 z3 := Tryz.sizeOf3
 v3 := Tryz.zeroValue3
 t4 := Tryz.underlying4
 a4 := Tryz.isAgg4
 z4 := Tryz.sizeOf4
 v4 := Tryz.zeroValue4
 t5 := Tryz.underlying5
 a5 := Tryz.isAgg5
 z5 := Tryz.sizeOf5
 v5 := Tryz.zeroValue5
 t9 := Tryz.underlying9
 a9 := Tryz.isAgg9
 z9 := Tryz.sizeOf9
 v9 := Tryz.zeroValue9
 t22 := Tryz.underlying116
 a22 := Tryz.isAgg116
 z22 := Tryz.sizeOf116
 v22 := Tryz.zeroValue116
 a24 := Tryz.isAgg114
 z24 := Tryz.sizeOf114
 t25 := Tryz.underlying168
 a25 := Tryz.isAgg168
 z25 := Tryz.sizeOf168
 v25 := Tryz.zeroValue168
 t39 := Tryz.underlying163
 a39 := Tryz.isAgg163
 z39 := Tryz.sizeOf163
 v39 := Tryz.zeroValue163
 t45 := Tryz.underlying170
 a45 := Tryz.isAgg170
 z45 := Tryz.sizeOf170
 v45 := Tryz.zeroValue170
 t46 := Tryz.underlying171
 a46 := Tryz.isAgg171
 z46 := Tryz.sizeOf171
 v46 := Tryz.zeroValue171
 t50 := Tryz.underlying147
 a50 := Tryz.isAgg147
 z50 := Tryz.sizeOf147
 v50 := Tryz.zeroValue147
 t53 := Tryz.underlying177
 a53 := Tryz.isAgg177
 z53 := Tryz.sizeOf177
 v53 := Tryz.zeroValue177
 t55 := Tryz.underlying179
 a55 := Tryz.isAgg179
 z55 := Tryz.sizeOf179
 v55 := Tryz.zeroValue179
 t66 := Tryz.underlying189
 a66 := Tryz.isAgg189
 z66 := Tryz.sizeOf189
 v66 := Tryz.zeroValue189
 t70 := Tryz.underlying193
 a70 := Tryz.isAgg193
 z70 := Tryz.sizeOf193
 v70 := Tryz.zeroValue193
 t76 := Tryz.underlying206
 a76 := Tryz.isAgg206
 z76 := Tryz.sizeOf206
 v76 := Tryz.zeroValue206
 t77 := Tryz.underlying207
 a77 := Tryz.isAgg207
 z77 := Tryz.sizeOf207
 v77 := Tryz.zeroValue207 }
def laySortDot_ren : Go.Shelf.Ren := ⟨fun | 6 => 74 | 15 => 99 | 14 => 98 | 28 => 115 | 29 => 116 | 20 => 107 | 21 => 108 | 22 => 109 | 23 => 110 | 24 => 111 | 25 => 112 | 26 => 113 | 27 => 114 | 46 => 127 | 47 => 128 | 48 => 129 | 49 => 130 | 50 => 131 | 57 => 145 | n => n, fun | 22 => 42 | 24 => 32 | 25 => 103 | 3 => 3 | 39 => 163 | 0 => 0 | 53 => 177 | 55 => 179 | 4 => 4 | 46 => 171 | 45 => 170 | 50 => 147 | 5 => 5 | 9 => 9 | 66 => 189 | 70 => 193 | 76 => 206 | 77 => 207 | n => n, fun | n => n⟩
theorem laySortDot : Go.Proofs.SlLaysF0.n6 Tryz.prog laySortDot_ren := {
 mixed := by kernel_rfl
 f6 := ⟨Tryz.f74.name, by decide, Tryz.func74.trans (congrArg some (by kernel_rfl))⟩
 f14 := ⟨Tryz.f98.name, by decide, Tryz.func98.trans (congrArg some (by kernel_rfl))⟩
 f15 := Tryz.func99.trans (congrArg some (by kernel_rfl))
 f20 := ⟨Tryz.f107.name, by decide, Tryz.func107.trans (congrArg some (by kernel_rfl))⟩
 f21 := ⟨Tryz.f108.name, by decide, Tryz.func108.trans (congrArg some (by kernel_rfl))⟩
 f22 := ⟨Tryz.f109.name, by decide, Tryz.func109.trans (congrArg some (by kernel_rfl))⟩
 f23 := ⟨Tryz.f110.name, by decide, Tryz.func110.trans (congrArg some (by kernel_rfl))⟩
 f24 := ⟨Tryz.f111.name, by decide, Tryz.func111.trans (congrArg some (by kernel_rfl))⟩
 f25 := ⟨Tryz.f112.name, by decide, Tryz.func112.trans (congrArg some (by kernel_rfl))⟩
 f26 := ⟨Tryz.f113.name, by decide, Tryz.func113.trans (congrArg some (by kernel_rfl))⟩
 f27 := ⟨Tryz.f114.name, by decide, Tryz.func114.trans (congrArg some (by kernel_rfl))⟩
 f28 := Tryz.func115.trans (congrArg some (by kernel_rfl))
 f29 := Tryz.func116.trans (congrArg some (by kernel_rfl))
 f46 := ⟨Tryz.f127.name, by decide, Tryz.func127.trans (congrArg some (by kernel_rfl))⟩
 f47 := Tryz.func128.trans (congrArg some (by kernel_rfl))
 f48 := Tryz.func129.trans (congrArg some (by kernel_rfl))
 f49 := ⟨Tryz.f130.name, by decide, Tryz.func130.trans (congrArg some (by kernel_rfl))⟩
 f50 := ⟨Tryz.f131.name, by decide, Tryz.func131.trans (congrArg some (by kernel_rfl))⟩
 f57 := ⟨Tryz.f145.name, by decide, Tryz.func145.trans (congrArg some (by kernel_rfl))⟩
 t0 := Tryz.underlying0
 a0 := Tryz.isAgg0
 z0 := Tryz.sizeOf0
 v0 := Tryz.zeroValue0
 t3 := Tryz.underlying3
 a3 := Tryz.isAgg3
 z3 := Tryz.sizeOf3
 v3 := Tryz.zeroValue3
 t4 := Tryz.underlying4
 a4 := Tryz.isAgg4
 z4 := Tryz.sizeOf4
 v4 := Tryz.zeroValue4
 t5 := Tryz.underlying5
 a5 := Tryz.isAgg5
 z5 := Tryz.sizeOf5
 v5 := Tryz.zeroValue5
 t9 := Tryz.underlying9
 a9 := Tryz.isAgg9
 z9 := Tryz.sizeOf9
 v9 := Tryz.zeroValue9
 t22 := Tryz.underlying42
 a22 := Tryz.isAgg42
 z22 := Tryz.sizeOf42
 v22 := Tryz.zeroValue42
 t25 := Tryz.underlying103
 a25 := Tryz.isAgg103
 z25 := Tryz.sizeOf103
 v25 := Tryz.zeroValue103
 t39 := Tryz.underlying163
 a39 := Tryz.isAgg163
 z39 := Tryz.sizeOf163
 v39 := Tryz.zeroValue163
 t45 := Tryz.underlying170
 a45 := Tryz.isAgg170
 z45 := Tryz.sizeOf170
 v45 := Tryz.zeroValue170
 t46 := Tryz.underlying171
 a46 := Tryz.isAgg171
 z46 := Tryz.sizeOf171
 v46 := Tryz.zeroValue171
 t50 := Tryz.underlying147
 a50 := Tryz.isAgg147
 z50 := Tryz.sizeOf147
 v50 := Tryz.zeroValue147
 t53 := Tryz.underlying177
 a53 := Tryz.isAgg177
 z53 := Tryz.sizeOf177
 v53 := Tryz.zeroValue177
 t55 := Tryz.underlying179
 a55 := Tryz.isAgg179
 z55 := Tryz.sizeOf179
 v55 := Tryz.zeroValue179
 t66 := Tryz.underlying189
 a66 := Tryz.isAgg189
 z66 := Tryz.sizeOf189
 v66 := Tryz.zeroValue189
 t70 := Tryz.underlying193
 a70 := Tryz.isAgg193
 z70 := Tryz.sizeOf193
 v70 := Tryz.zeroValue193
 t76 := Tryz.underlying206
 a76 := Tryz.isAgg206
 z76 := Tryz.sizeOf206
 v76 := Tryz.zeroValue206
 t77 := Tryz.underlying207
 a77 := Tryz.isAgg207
 z77 := Tryz.sizeOf207
 v77 := Tryz.zeroValue207 }
def laySorted_ren : Go.Shelf.Ren := ⟨fun | 6 => 135 | 8 => 147 | 9 => 148 | 11 => 153 | 13 => 99 | 12 => 154 | 23 => 115 | 24 => 116 | 14 => 156 | 15 => 157 | 16 => 158 | 17 => 159 | 18 => 160 | 19 => 161 | 20 => 162 | 21 => 163 | 22 => 164 | 25 => 165 | 26 => 128 | 27 => 129 | 28 => 166 | 29 => 167 | 30 => 100 | 31 => 168 | n => n, fun | 26 => 3 | 28 => 199 | 24 => 114 | 0 => 0 | 3 => 3 | 37 => 163 | 48 => 177 | 50 => 179 | 4 => 4 | 40 => 171 | 39 => 170 | 45 => 147 | 5 => 5 | 9 => 9 | 51 => 189 | 55 => 193 | 57 => 206 | 58 => 207 | 33 => 60 | n => n, fun | n => n⟩
theorem laySorted : Go.Proofs.SlLaysZI.n6 Tryz.prog laySorted_ren := {
 mixed := by kernel_rfl
 f6 := ⟨Tryz.f135.name, by decide, Tryz.func135.trans (congrArg some (by kernel_rfl))⟩
 f8 := ⟨Tryz.f147.name, by decide, Tryz.func147.trans (congrArg some (by kernel_rfl))⟩
 f11 := ⟨Tryz.f153.name, by decide, Tryz.func153.trans (congrArg some (by kernel_rfl))⟩
 t0 := Tryz.underlying0
 a0 := Tryz.isAgg0
 z0 := Tryz.sizeOf0
 v0 := Tryz.zeroValue0
 t24 := Tryz.underlying114
 a24 := Tryz.isAgg114
 z24 := Tryz.sizeOf114
 v24 := Tryz.zeroValue114
 t26 := Tryz.underlying3
 a26 := Tryz.isAgg3
 z26 := Tryz.sizeOf3
 v26 := Tryz.zeroValue3
 t28 := Tryz.underlying199
 a28 := Tryz.isAgg199
 z28 := Tryz.sizeOf199
 v28 := Tryz.zeroValue199
 i26 := by kernel_rfl }
def laySortI_ren : Go.Shelf.Ren := ⟨fun | 5 => 148 | 8 => 99 | 7 => 154 | 19 => 115 | 20 => 116 | 10 => 156 | 11 => 157 | 12 => 158 | 13 => 159 | 14 => 160 | 15 => 161 | 16 => 162 | 17 => 163 | 18 => 164 | 30 => 165 | 31 => 128 | 32 => 129 | 33 => 166 | 34 => 167 | 35 => 100 | 40 => 168 | n => n, fun | 23 => 114 | 25 => 3 | 3 => 3 | 32 => 163 | 22 => 114 | 0 => 0 | 44 => 177 | 46 => 179 | 4 => 4 | 36 => 171 | 35 => 170 | 41 => 147 | 5 => 5 | 9 => 9 | 53 => 189 | 57 => 193 | 63 => 206 | 64 => 207 | n => n, fun | n => n⟩
theorem laySortI : Go.Proofs.SlLaysM.n5 Tryz.prog laySortI_ren := {
 mixed := by kernel_rfl
 f5 := ⟨Tryz.f148.name, by decide, Tryz.func148.trans (congrArg some (by kernel_rfl))⟩
 f7 := ⟨Tryz.f154.name, by decide, Tryz.func154.trans (congrArg some (by kernel_rfl))⟩
 f8 := Tryz.func99.trans (congrArg some (by kernel_rfl))
 f10 := ⟨Tryz.f156.name, by decide, Tryz.func156.trans (congrArg some (by kernel_rfl))⟩
 f11 := ⟨Tryz.f157.name, by decide, Tryz.func157.trans (congrArg some (by kernel_rfl))⟩
 f12 := ⟨Tryz.f158.name, by decide, Tryz.func158.trans (congrArg some (by kernel_rfl))⟩
 f13 := ⟨Tryz.f159.name, by decide, Tryz.func159.trans (congrArg some (by kernel_rfl))⟩
 f14 := ⟨Tryz.f160.name, by decide, Tryz.func160.trans (congrArg some (by kernel_rfl))⟩
 f15 := ⟨Tryz.f161.name, by decide, Tryz.func161.trans (congrArg some (by kernel_rfl))⟩
 f16 := ⟨Tryz.f162.name, by decide, Tryz.func162.trans (congrArg some (by kernel_rfl))⟩
 f17 := ⟨Tryz.f163.name, by decide, Tryz.func163.trans (congrArg some (by kernel_rfl))⟩
 f18 := ⟨Tryz.f164.name, by decide, Tryz.func164.trans (congrArg some (by kernel_rfl))⟩
 f19 := Tryz.func115.trans (congrArg some (by kernel_rfl))
 f20 := Tryz.func116.trans (congrArg some (by kernel_rfl))
 f30 := ⟨Tryz.f165.name, by decide, Tryz.func165.trans (congrArg some (by kernel_rfl))⟩
 f31 := Tryz.func128.trans (congrArg some (by kernel_rfl))
 f32 := Tryz.func129.trans (congrArg some (by kernel_rfl))
 f33 := ⟨Tryz.f166.name, by decide, Tryz.func166.trans (congrArg some (by kernel_rfl))⟩
 f34 := ⟨Tryz.f167.name, by decide, Tryz.func167.trans (congrArg some (by kernel_rfl))⟩
 f35 := ⟨Tryz.f100.name, by decide, Tryz.func100.trans (congrArg some (by kernel_rfl))⟩
 f40 := ⟨Tryz.f168.name, by decide, Tryz.func168.trans (congrArg some (by kernel_rfl))⟩
 t0 := Tryz.underlying0
 a0 := Tryz.isAgg0
 z0 := Tryz.sizeOf0
 v0 := Tryz.zeroValue0
 t3 := Tryz.underlying3
 a3 := Tryz.isAgg3
 z3 := Tryz.sizeOf3
 v3 := Tryz.zeroValue3
 t4 := Tryz.underlying4
 a4 := Tryz.isAgg4
 z4 := Tryz.sizeOf4
 v4 := Tryz.zeroValue4
 t5 := Tryz.underlying5
 a5 := Tryz.isAgg5
 z5 := Tryz.sizeOf5
 v5 := Tryz.zeroValue5
 t9 := Tryz.underlying9
 a9 := Tryz.isAgg9
 z9 := Tryz.sizeOf9
 v9 := Tryz.zeroValue9
 t22 := Tryz.underlying114
 a22 := Tryz.isAgg114
 z22 := Tryz.sizeOf114
 v22 := Tryz.zeroValue114
 t23 := Tryz.underlying114
 a23 := Tryz.isAgg114
 z23 := Tryz.sizeOf114
 v23 := Tryz.zeroValue114
 t25 := Tryz.underlying3
 a25 := Tryz.isAgg3
 z25 := Tryz.sizeOf3
 v25 := Tryz.zeroValue3
 t32 := Tryz.underlying163
 a32 := Tryz.isAgg163
 z32 := Tryz.sizeOf163
 v32 := Tryz.zeroValue163
 t35 := Tryz.underlying170
 a35 := Tryz.isAgg170
 z35 := Tryz.sizeOf170
 v35 := Tryz.zeroValue170
 t36 := Tryz.underlying171
 a36 := Tryz.isAgg171
 z36 := Tryz.sizeOf171
 v36 := Tryz.zeroValue171
 t41 := Tryz.underlying147
 a41 := Tryz.isAgg147
 z41 := Tryz.sizeOf147
 v41 := Tryz.zeroValue147
 t44 := Tryz.underlying177
 a44 := Tryz.isAgg177
 z44 := Tryz.sizeOf177
 v44 := Tryz.zeroValue177
 t46 := Tryz.underlying179
 a46 := Tryz.isAgg179
 z46 := Tryz.sizeOf179
 v46 := Tryz.zeroValue179
 t53 := Tryz.underlying189
 a53 := Tryz.isAgg189
 z53 := Tryz.sizeOf189
 v53 := Tryz.zeroValue189
 t57 := Tryz.underlying193
 a57 := Tryz.isAgg193
 z57 := Tryz.sizeOf193
 v57 := Tryz.zeroValue193
 t63 := Tryz.underlying206
 a63 := Tryz.isAgg206
 z63 := Tryz.sizeOf206
 v63 := Tryz.zeroValue206
 t64 := Tryz.underlying207
 a64 := Tryz.isAgg207
 z64 := Tryz.sizeOf207
 v64 := Tryz.zeroValue207 }
end Go.Proofs.YtfhacbhgmnhmlaaGreat
namespace Go.Proofs.YtfhacbhgmnhmlaaGreat
set_option linter.unusedVariables false
set_option linter.unusedSimpArgs false
open Go Go.Eng Go.Sort
structure Ins where
 d : Dot
 s : Int
 v : P7 Int
instance : Inhabited Ins := ⟨⟨⟨0, 0⟩, 0, P7.all 0⟩⟩
def INS : Ly Ins := ⟨10, by omega, fun x => [.int .i64 x.d.rep, .int .i64 x.d.n, .int .i64 x.s, .int .i64 x.v.x0, .int .i64 x.v.x1, .int .i64 x.v.x2, .int .i64 x.v.x3, .int .i64 x.v.x4, .int .i64 x.v.x5, .int .i64 x.v.x6], fun _ => rfl, fun _ => rfl⟩
def cmpIns (a b : Ins) : Int := orI [cmpI a.s b.s, cmpI a.d.rep b.d.rep, cmpI a.d.n b.d.n]
def dotO (d : Dot) : Bool := decide (0 ≤ d.rep) && decide (d.rep < 7) && decide (1 ≤ d.n) && decide (d.n ≤ 1000)
section
variable {W0 W : World} {L L' : List Asn}
theorem or3 {a b c : Int} {k : Value → World → Prop} (h : St W0 L W) (hk : ∀ W', St W0 L W' → k (.int .i64 (orI [a, b, c])) W') :
  efK PR (Instr.buildSlice T_s_int 3 #[(0, .int .i64 a), (1, .int .i64 b), (2, .int .i64 c)]) (fun v W => callK PR F_cmp_Or_int [v] k W) W := by
 refine bs (cs := [.int .i64 a, .int .i64 b, .int .i64 c]) h (by simp) (by simp) rfl fun x W4 h => ?_
 exact ca (cmpOr (l := [a, b, c]) (by simp) h) fun v W' ⟨e, h⟩ => by subst e; exact hk _ h
theorem ordCompare (a b : Ins) (W : World) : callK PR F_order_compare (.agg (INS.row a).toArray :: .agg (INS.row b).toArray :: []) (fun v W' => v = .int .i64 (cmpIns a b) ∧ St W [] W') W := by
 apply S.order_compare.call
 delta S.order_compare.body oK oA rD lD eF eU sT cL vC gD gX gP gA gR gL gE gU gC gV hL sB nI
 refine bxa (St.start W) fun p W1 h => ?_
 refine bxa h fun q W2 h => ?_
 have h : St W [cells q [.int .i64 b.d.rep, .int .i64 b.d.n, .int .i64 b.s, .int .i64 b.v.x0, .int .i64 b.v.x1, .int .i64 b.v.x2, .int .i64 b.v.x3, .int .i64 b.v.x4, .int .i64 b.v.x5, .int .i64 b.v.x6] T_order_Inst, cells p [.int .i64 a.d.rep, .int .i64 a.d.n, .int .i64 a.s, .int .i64 a.v.x0, .int .i64 a.v.x1, .int .i64 a.v.x2, .int .i64 a.v.x3, .int .i64 a.v.x4, .int .i64 a.v.x5, .int .i64 a.v.x6] T_order_Inst] W2 := h
 (repeat (first | ((with_reducible first | refine w1 ?_ | refine stb_n ?_); intros) | ((with_reducible refine v5 ?_); refine ⟨_, rfl, ?_⟩) | ((with_reducible refine v8 ?_ ?_); exact rfl; intros) | simp -implicitDefEqProofs only [SE, SU, SV]))
 refine or3 (by assumption) fun W3 h => ?_
 (first | exact St.nil (by assumption) | exact ⟨rfl, St.nil (by assumption)⟩)
instance ordDot (r n : Int) : Pure0 PR F_order_dot [.agg #[.int .i64 r, .int .i64 n]] (.bool (dotO ⟨r, n⟩)) := ⟨fun W => by
 apply S.order_dot.call
 delta S.order_dot.body oK oA rD lD eF eU sT cL vC gD gX gP gA gR gL gE gU gC gV hL sB nI
 refine bxa (St.start W) fun p W1 h => ?_
 unfold dotO
 by_cases h1 : 0 ≤ r
 ·by_cases h2 : r < 7
  ·by_cases h3 : 1 ≤ n
   ·by_cases h4 : n ≤ 1000
    ·(repeat (first | ((with_reducible refine v5 ?_); refine ⟨_, rfl, ?_⟩) | simp -implicitDefEqProofs only [SE, SU, SV, h1, h2, h3, h4]))
     (first | exact St.nil (by assumption) | exact ⟨rfl, St.nil (by first | assumption | exact St.tick (by assumption) | exact St.tick (St.tick (by assumption)))⟩)
    ·(repeat (first | ((with_reducible refine v5 ?_); refine ⟨_, rfl, ?_⟩) | simp -implicitDefEqProofs only [SE, SU, SV, h1, h2, h3, h4]))
     (first | exact St.nil (by assumption) | exact ⟨rfl, St.nil (by first | assumption | exact St.tick (by assumption) | exact St.tick (St.tick (by assumption)))⟩)
   ·(repeat (first | ((with_reducible refine v5 ?_); refine ⟨_, rfl, ?_⟩) | simp -implicitDefEqProofs only [SE, SU, SV, h1, h2, h3]))
    (first | exact St.nil (by assumption) | exact ⟨rfl, St.nil (by first | assumption | exact St.tick (by assumption) | exact St.tick (St.tick (by assumption)))⟩)
  ·(repeat (first | ((with_reducible refine v5 ?_); refine ⟨_, rfl, ?_⟩) | simp -implicitDefEqProofs only [SE, SU, SV, h1, h2]))
   (first | exact St.nil (by assumption) | exact ⟨rfl, St.nil (by first | assumption | exact St.tick (by assumption) | exact St.tick (St.tick (by assumption)))⟩)
 ·(repeat (first | ((with_reducible refine v5 ?_); refine ⟨_, rfl, ?_⟩) | simp -implicitDefEqProofs only [SE, SU, SV, h1]))
  (first | exact St.nil (by assumption) | exact ⟨rfl, St.nil (by first | assumption | exact St.tick (by assumption) | exact St.tick (St.tick (by assumption)))⟩)⟩
theorem insClone {a : Option Addr} {l : List Ins} {c : Nat} {k : Value → World → Prop} (h : St W0 L W) [hr : Rd W0 L a INS l] (hl : l.length < 1000000)
  (hk : ∀ a' c' W', St W0 (arr INS T_order_Inst a' c' l :: L) W' → k (.slice a' l.length c') W') : callK PR F_slices_Clone_order_Inst_order_Inst [.slice a l.length c] k W := by
 apply S.slices_Clone_order_Inst_order_Inst.call
 delta S.slices_Clone_order_Inst_order_Inst.body oK oA rD lD eF eU sT cL vC gD gX gP gA gR gL gE gU gC gV hL sB nI
 cases a with
 | none =>
  have hl0 : l = [] := by
   rcases Classical.em (l = []) with h0 | h0
   ·exact h0
   ·obtain ⟨g, o, h1, _⟩ := Rd.at (A := INS) (l := l) (a := none) h h0
    cases h1
  subst hl0
  simp -implicitDefEqProofs only [SE, SU, SV]
  exact hk none 0 W (h.ent (arr_nil _ _))
 | some ad =>
  simp -implicitDefEqProofs only [SE, SU, SV]
  refine bs0 INS h fun a1 c1 W1 h1 => ?_
  refine appA (a := a1) (l := []) (m := l) h1 rfl (by simp; omega) (by simp [maxLen]; omega) fun a2 c2 W2 h2 => ?_
  exact hk a2 c2 W2 h2
end
end Go.Proofs.YtfhacbhgmnhmlaaGreat
namespace Go.Eng
set_option linter.unusedVariables false
set_option linter.unusedSimpArgs false
open Go Go.RowKit Go.Sort Go.Proofs
section
variable {P : Program} {ρ : Go.Shelf.Ren} {W0 W W' : World} {L L' : List Asn} {e : TypeId} {α : Type} {A : Ly α}
def atF (l : List α) (i : Fin l.length) : α := l[i]
def Ly.ix (A : Ly α) (l : List α) : Ly (Fin l.length) := ⟨A.sz, A.pos, fun i => A.row (atF l i), fun _ => A.len _, fun _ => A.one _⟩
theorem ix_rows (l : List α) (m : List (Fin l.length)) : (A.ix l).rows m = A.rows (m.map (atF l)) := by
 induction m with
 | nil => rfl
 | cons i m ih => rw [Ly.rows_cons, ih, List.map_cons, Ly.rows_cons]; rfl
theorem arr_ix {l : List α} {m : List (Fin l.length)} {a : Option Addr} {c : Nat} : arr (A.ix l) e a c m = arr A e a c (m.map (atF l)) := by
 unfold arr; rw [ix_rows, List.length_map]; rfl
theorem fin_map (l : List α) : ((List.finRange l.length).map (atF l)) = l := by
 apply List.ext_getElem
 ·simp
 ·intro i h1 h2; simp [atF]
theorem swo_total {α : Type} {lt : α → α → Bool} (hO : SWO lt) (a b : α) : ((!lt b a) || (!lt a b)) = true := by
 cases h1 : lt b a with
 | false => rfl
 | true =>
  cases h2 : lt a b with
  | false => rfl
  | true => have := hO.trans _ _ _ h1 h2; rw [hO.irrefl] at this; cases this
theorem sortIx (L6 : SlLaysF0.n6 P ρ) (aE : ∀ w, (isAgg (ρ.t 24)).run P w = .ok true w) (zE : ∀ w, (Go.sizeOf (ρ.t 24)).run P w = .ok A.sz w) (cf : α → α → Int) {l : List α} (hO : SWO (ltOf fun i j : Fin l.length => cf (atF l i) (atF l j)))
  (hT : ∀ i j : Fin l.length, (ltOf fun i j : Fin l.length => cf (atF l i) (atF l j)) i j = false → (ltOf fun i j : Fin l.length => cf (atF l i) (atF l j)) j i = false → i = j)
  (g : Nat) (cb : List Value) {a : Option Addr} {c : Nat} {k : Value → World → Prop} (eg : ∀ args w, (callFunc g args).run P w = .ok (.enter g args) w)
  (h : St W0 L W) [ho : Go.Eng.Own a L A e c l L'] (hc : ∀ x ∈ l, ∀ y ∈ l, ∀ W', St W0 L' W' → callK P g (.agg (A.row x).toArray :: .agg (A.row y).toArray :: cb) (fun v W'' => v = .int .i64 (cf x y) ∧ St W' [] W'') W')
  (hl : l.length < 4611686018427387904) (hk : ∀ m W', m.Perm l → m.Pairwise (fun x y => ¬ cf y x < 0) → St W0 (arr A e a c m :: L') W' → k (.tuple #[]) W') : callK P (ρ.f 6) [.slice a l.length c, .func (.func g) #[] cb.toArray] k W := by
 have h := h.took (a := a)
 by_cases hl0 : l = []
 ·subst hl0
  refine (AnyF.slices_SortFunc_none L6 a c (.func (.func g) #[] cb.toArray) W).mono ?_
  rintro ed w' ⟨rfl, rfl⟩
  exact hk [] _ (List.Perm.refl _) List.Pairwise.nil h
 ·have hpos : 0 < l.length := List.length_pos_iff.2 hl0
  haveI : Inhabited (Fin l.length) := ⟨⟨0, hpos⟩⟩
  have h2 : St W0 (arr (A.ix l) e a c (List.finRange l.length) :: L') W := by rw [arr_ix, fin_map]; exact h
  have hlen : (List.finRange l.length).length = l.length := List.length_finRange
  have key := sortFX (A := A.ix l) L6 aE zE (fun i j : Fin l.length => cf (atF l i) (atF l j)) hO hT g cb eg h2 (a := a) (c := c) (l := List.finRange l.length) (k := k) (fun i j W' h => hc (atF l i) (List.getElem_mem _) (atF l j) (List.getElem_mem _) W' h) (by rw [hlen]; exact hl) (fun W' h => by
   rw [arr_ix] at h
   refine hk _ W' ?_ ?_ h
   ·have := ((List.mergeSort_perm (List.finRange l.length) fun x y => !(ltOf fun i j : Fin l.length => cf (atF l i) (atF l j)) y x).map (atF l))
    rwa [fin_map] at this
   ·refine List.pairwise_map.2 ((List.pairwise_mergeSort (fun a b c h1 h2 => ?_) (fun a b => swo_total hO a b) _).imp fun {a b} h => ?_)
    ·simp only [Bool.not_eq_true'] at *
     exact hO.ntrans _ _ _ h2 h1
    ·simp only [ltOf, Bool.not_eq_true', decide_eq_false_iff_not] at h
     exact h)
  rw [hlen] at key
  exact key
theorem putRow_enc {α : Type} [Inhabited α] (enc : α → Value) (w : World) (b o : Nat) (d : Array α) : Sort.putRow enc w b o d = Sort.putRow id w b o (d.map enc) := by
 unfold Sort.putRow
 congr 1
 funext c
 unfold putCells
 apply Array.ext_getElem?
 intro i
 simp only [Array.getElem?_mapIdx, Array.size_map, id_eq]
 cases c[i]? with
 | none => rfl
 | some x =>
  simp only [Option.map_some]
  by_cases h : o ≤ i ∧ i < o + d.size
  ·rw [if_pos h, if_pos h, getElem!_pos d _ (by omega), getElem!_pos (d.map enc) _ (by simp; omega)]
   simp
  ·rw [if_neg h, if_neg h]
theorem rows_one {enc : α → Value} (hA : ∀ x, A.row x = [enc x]) (l : List α) : A.rows l = l.map enc := by
 induction l with
 | nil => rfl
 | cons a l ih => rw [Ly.rows_cons, ih, hA]; rfl
theorem sortIx1 (L6 : SlLaysF.n6 P ρ) {enc : α → Value} (hA : ∀ x, A.row x = [enc x]) (cf : α → α → Int) {l : List α} (hO : SWO (ltOf fun i j : Fin l.length => cf (atF l i) (atF l j)))
  (hT : ∀ i j : Fin l.length, (ltOf fun i j : Fin l.length => cf (atF l i) (atF l j)) i j = false → (ltOf fun i j : Fin l.length => cf (atF l i) (atF l j)) j i = false → i = j)
  (g : Nat) (cb : List Value) {a : Option Addr} {c : Nat} {k : Value → World → Prop} (eg : ∀ args w, (callFunc g args).run P w = .ok (.enter g args) w)
  (h : St W0 L W) [ho : Go.Eng.Own a L A e c l L'] (hc : ∀ x ∈ l, ∀ y ∈ l, ∀ W', St W0 L' W' → callK P g (enc x :: enc y :: cb) (fun v W'' => v = .int .i64 (cf x y) ∧ St W' [] W'') W')
  (hl : l.length < 4611686018427387904) (hk : ∀ m W', m.Perm l → m.Pairwise (fun x y => ¬ cf y x < 0) → St W0 (arr A e a c m :: L') W' → k (.tuple #[]) W') : callK P (ρ.f 6) [.slice a l.length c, .func (.func g) #[] cb.toArray] k W := by
 have h := h.took (a := a)
 have L0 : SlLaysF0.n6 P ρ := { L6 with }
 by_cases hl0 : l = []
 ·subst hl0
  refine (AnyF.slices_SortFunc_none L0 a c (.func (.func g) #[] cb.toArray) W).mono ?_
  rintro ed w' ⟨rfl, rfl⟩
  exact hk [] _ (List.Perm.refl _) List.Pairwise.nil h
 have hpos : 0 < l.length := List.length_pos_iff.2 hl0
 haveI : Inhabited (Fin l.length) := ⟨⟨0, hpos⟩⟩
 have hf := h.arrFacts
 have hs1 : A.sz = 1 := by rw [← A.len (l[0]), hA]; rfl
 obtain ⟨b, o, cur, rfl, h1, h2, h3⟩ := h.arrCells (fun e => by have := hf.2.2.1 e; omega)
 rw [hs1, Nat.mul_one] at h1 h2
 have hcell := cells_hold (o := o) h3 l.length (by omega)
 have hls : (List.finRange l.length).toArray.size = l.length := by simp
 have hrow := rows_one hA l
 have hH : Holds (fun i : Fin l.length => enc (atF l i)) W b o (List.finRange l.length).toArray := by
  intro j hj
  have hj' : j < l.length := by simpa using hj
  refine ⟨?_, (hcell j hj').2⟩
  rw [(hcell j hj').1, getElem!_pos _ j hj]
  have e3 : (A.rows l)[j]? = cur[o + j]? := by rw [← h2, List.getElem?_take_of_lt hj', List.getElem?_drop]
  rw [← e3, hrow, List.getElem?_map, List.getElem?_eq_getElem hj']
  simp [atF]
 have hblk : b < W.heap.size := by
  obtain ⟨fr, _, hb⟩ := h3.cells
  exact (Array.getElem?_eq_some_iff.1 hb.blk.2).1
 have hcmp : CmpLays1 P g cb.toArray (fun i : Fin l.length => enc (atF l i)) (fun i j => cf (atF l i) (atF l j)) b o (List.finRange l.length).toArray.size W := by
  intro m os dk hdk x y
  have hfs : (dk.map fun i : Fin l.length => enc (atF l i)).toList.length = l.length := by rw [Array.length_toList, Array.size_map, hdk, hls]
  have hw := (St.putRow (o := o) (n := m) (os := os) h3 (F := (dk.map fun i : Fin l.length => enc (atF l i)).toList) (by rw [hfs]; have := hf.1; omega)).drop
  rw [Array.toArray_toList, ← putRow_enc] at hw
  have h5 := hc (atF l x) (List.getElem_mem x.isLt) (atF l y) (List.getElem_mem y.isLt) (sortWorld (fun i : Fin l.length => enc (atF l i)) W b o m dk os) hw
  have e5 : (#[enc (atF l x), enc (atF l y)] ++ cb.toArray : Array Value) = (enc (atF l x) :: enc (atF l y) :: cb).toArray := by simp
  rw [e5]
  refine Calls.mono h5 fun ed w' hq => ?_
  cases ed with
  | returned v => exact ⟨by rw [hq.1], hq.2.grown⟩
  | _ => exact hq.elim
 have hcon := Any.slices_SortFunc_total L6 (fun i : Fin l.length => enc (atF l i)) (fun i => ?_) (fun i j => cf (atF l i) (atF l j)) hO g cb.toArray b o c (List.finRange l.length).toArray W eg hcmp hH hblk (by rw [hls]; exact hl) hT
 ·rw [hls] at hcon
  generalize hM : (List.finRange l.length).toArray.toList.mergeSort _ = M at hcon
  refine Calls.mono hcon ?_
  rintro ed w' ⟨rfl, n, os, rfl⟩
  have e8 : ((List.finRange l.length).toArray.toList) = List.finRange l.length := by simp
  rw [e8] at hM
  have hp : M.Perm (List.finRange l.length) := by rw [← hM]; exact List.mergeSort_perm _ _
  have hlen : M.length = l.length := by rw [hp.length_eq, List.length_finRange]
  refine hk (M.map (atF l)) _ ?_ ?_ ?_
  ·have := hp.map (atF l)
   rwa [fin_map] at this
  ·rw [← hM]
   refine List.pairwise_map.2 ((List.pairwise_mergeSort (fun a b c h1 h2 => ?_) (fun a b => swo_total hO a b) _).imp fun {a b} h => ?_)
   ·simp only [Bool.not_eq_true'] at *
    exact hO.ntrans _ _ _ h2 h1
   ·simp only [ltOf, Bool.not_eq_true', decide_eq_false_iff_not] at h
    exact h
  ·clear hM
   unfold sortWorld
   rw [putRow_enc]
   have e6 : (M.toArray.map fun i : Fin l.length => enc (atF l i)) = (A.rows (M.map (atF l))).toArray := by rw [rows_one hA]; simp
   rw [e6]
   have hrl : (A.rows (M.map (atF l))).length = l.length := by rw [Ly.rows_len, List.length_map, hlen, hs1, Nat.mul_one]
   refine (St.putRow (o := o) (n := n) (os := os) h3 (F := A.rows (M.map (atF l))) (by omega)).ent (arr_of_cells (by rw [List.length_map]; have := hf.1; omega) hf.2.1 ?_ ?_)
   ·rw [hs1]
    simp only [List.length_append, List.length_take, List.length_drop]; have := hf.1; omega
   ·rw [hs1, Nat.mul_one, List.append_assoc, List.drop_append_of_le_length (by simp; have := hf.1; omega), List.drop_take, Nat.sub_self, List.take_zero, List.nil_append, List.length_map, hlen]
    exact List.take_left' hrl
 ·have := List.all_eq_true.1 (A.one (atF l i)) (enc (atF l i)) (by rw [hA]; simp)
  show (enc (atF l i)).oneCell' = true
  generalize enc (atF l i) = v at this ⊢
  cases v <;> first | rfl | (simp [oneC] at this)
end
end Go.Eng
namespace Go.Proofs.YtfhacbhgmnhmlaaGreat
set_option linter.unusedVariables false
set_option linter.unusedSimpArgs false
open Go Go.Eng Go.Sort
def insLt (a b : Ins) : Prop := a.s < b.s ∨ (a.s = b.s ∧ (a.d.rep < b.d.rep ∨ (a.d.rep = b.d.rep ∧ a.d.n < b.d.n)))
instance (a b : Ins) : Decidable (insLt a b) := by unfold insLt; infer_instance
theorem cmpIns_lt (a b : Ins) : cmpIns a b < 0 ↔ insLt a b := by
 unfold cmpIns insLt cmpI
 simp only [orI]
 by_cases h1 : a.s < b.s
 ·simp [h1]
 ·by_cases h2 : b.s < a.s
  ·simp only [if_neg h1, if_pos h2]; simp; omega
  ·have h3 : a.s = b.s := by omega
   by_cases h4 : a.d.rep < b.d.rep
   ·simp [h3, h4]
   ·by_cases h5 : b.d.rep < a.d.rep
    ·simp [h3, h4, h5]; omega
    ·have h6 : a.d.rep = b.d.rep := by omega
     by_cases h7 : a.d.n < b.d.n
     ·simp [h3, h6, h7]
     ·by_cases h8 : b.d.n < a.d.n
      ·simp [h3, h6, h7, h8]
      ·simp [h3, h6, h7, h8]
theorem insLt_same {a b : Ins} (h1 : ¬ insLt a b) (h2 : ¬ insLt b a) : a.d = b.d := by
 unfold insLt at *
 obtain ⟨⟨r, n⟩, s, v⟩ := a
 obtain ⟨⟨r', n'⟩, s', v'⟩ := b
 simp only [Dot.mk.injEq] at *
 omega
theorem swoIns {α : Type} (f : α → Ins) : SWO (Proofs.ltOf fun x y => cmpIns (f x) (f y)) where
 irrefl x := by unfold Proofs.ltOf; rw [decide_eq_false_iff_not, cmpIns_lt, insLt]; omega
 trans x y z h1 h2 := by unfold Proofs.ltOf at *; rw [decide_eq_true_eq, cmpIns_lt, insLt] at *; omega
 ntrans x y z h1 h2 := by unfold Proofs.ltOf at *; rw [decide_eq_false_iff_not, cmpIns_lt, insLt] at *; omega
def insSorted (l : List Ins) : Prop := l.Pairwise fun x y => ¬ insLt y x
section
variable {W0 W : World} {L L' : List Asn}
theorem insSort {a : Option Addr} {c : Nat} {l : List Ins} {k : Value → World → Prop} (h : St W0 L W) [ho : Go.Eng.Own a L INS T_order_Inst c l L'] (hl : l.length < 1000000) (hn : (l.map (·.d)).Nodup)
  (hk : ∀ m W', m.Perm l → insSorted m → St W0 (arr INS T_order_Inst a c m :: L') W' → k (.tuple #[]) W') : callK PR F_slices_SortFunc_order_Inst_order_Inst [.slice a l.length c, .func (.func F_order_compare) #[] #[]] k W := by
 obtain ⟨d, i, h1, h2, h3, h4⟩ := (inferInstance : TyI PR T_order_Inst true 10).ok
 refine sortIx (P := PR) (A := INS) (ρ := laySortIns_ren) laySortIns (fun w => ?_) (fun w => ?_) cmpIns (l := l) (swoIns _) (fun i j g1 g2 => ?_) F_order_compare [] (fun args w => callFunc_ok (CBok _ (by kernel_rfl)) w) h (fun x _ y _ W' _ => ordCompare x y W') (by omega) fun m W' hp hs h => hk m W' hp (hs.imp fun {x y} h => by rwa [cmpIns_lt] at h) h
 ·have := run_isAgg' (P := PR) (w := w) h1
  rw [h2] at this
  exact this
 ·have := run_sizeOf' (P := PR) (w := w) h3
  rw [h4] at this
  exact this
 ·unfold Proofs.ltOf at g1 g2
  rw [decide_eq_false_iff_not, cmpIns_lt] at g1 g2
  have hd := insLt_same g1 g2
  have h3 := List.getElem_inj (h₀ := by simp) (h₁ := by simp) (i := i.1) (j := j.1) hn
  exact Fin.ext (h3.1 (by simpa [atF] using hd))
def insOne (x : Ins) : Bool := dotO x.d && !decide (x.s < 0) && !decide (1099511627776 < x.s)
def depsO (x : Ins) : Bool := x.v.list.all fun n => decide (0 ≤ n ∧ n ≤ 1000)
def goodO (l : List Ins) : Bool := l.all (fun x => insOne x && depsO x) && decide (l.map (·.d)).Nodup && decide (l.length ≤ 1000)
theorem depsO_iff (x : Ins) : depsO x = true ↔ ∀ i, i < 7 → 0 ≤ x.v.get i ∧ x.v.get i ≤ 1000 := by
 simp only [depsO, P7.list, List.all_cons, List.all_nil, Bool.and_true, Bool.and_eq_true, decide_eq_true_eq]
 constructor
 ·rintro ⟨h0, h1, h2, h3, h4, h5, h6⟩ i hi
  rcases P7.cases7 hi with rfl | rfl | rfl | rfl | rfl | rfl | rfl <;> assumption
 ·intro h
  exact ⟨h 0 (by omega), h 1 (by omega), h 2 (by omega), h 3 (by omega), h 4 (by omega), h 5 (by omega), h 6 (by omega)⟩
theorem nodup_take {l : List Ins} {i : Nat} (hi : i < l.length) (h : ((l.take i).map (·.d)).Nodup) (hn : l[i].d ∉ (l.take i).map (·.d)) : ((l.take (i + 1)).map (·.d)).Nodup := by
 rw [List.take_succ_eq_append_getElem hi, List.map_append, List.nodup_append]
 refine ⟨h, by simp, fun a ha b hb e => ?_⟩
 simp only [List.map_cons, List.map_nil, List.mem_singleton] at hb
 subst hb; subst e; exact hn ha
theorem seenD (ds : List Dot) (d : Dot) : ((mget (ds.map fun d => (d, Value.bool true)) d).getD (.bool false)) = .bool (decide (d ∈ ds)) := by
 induction ds with
 | nil => rfl
 | cons a ds ih =>
  simp only [List.map_cons, mget]
  by_cases h : a = d
  ·rw [if_pos h]; simp [h]
  ·rw [if_neg h, ih]; simp [Ne.symm h]
set_option maxRecDepth 100000 in
set_option maxHeartbeats 4000000 in
theorem ordGood {a : Option Addr} {c : Nat} {l : List Ins} {k : Value → World → Prop} (h : St W0 L W) [hr : Rd W0 L a INS l] (hl : l.length < 4611686018427387904)
  (hk : ∀ W', St W0 L W' → k (.bool (goodO l)) W') : callK PR F_order_Good [.slice a l.length c] k W := by
 apply S.order_Good.call
 delta S.order_Good.body oK oA rD lD eF eU sT cL vC gD gX gP gA gR gL gE gU gC gV hL sB nI
 refine mkMap (K := KD) h fun r W1 h => ?_
 refine joinK_i ?_
 (repeat simp -implicitDefEqProofs only [SE, SU, SV])
 refine loop_c (σ := Unit) l.length (fun i _ => [.slice a l.length c, .map (some r), .slice a l.length c, .int .i64 l.length, .int .i64 i])
  (fun i _ W1 => (((l.take i).all fun x => insOne x && depsO x) = true ∧ ((l.take i).map (·.d)).Nodup) ∧ St W0 (mp KD r (((l.take i).map (·.d)).map fun d => (d, Value.bool true)) :: L) W1) () rfl ⟨⟨rfl, List.nodup_nil⟩, h⟩ ?_
 clear h
 rintro K i _ W2 hi ⟨⟨hall, hnd⟩, h⟩ hK
 simp -implicitDefEqProofs only [SE, SU, SV]
 delta S.order_Good.l1 oK oA rD lD eF eU sT cL vC gD gX gP gA gR gL gE gU gC gV hL sB nI
 by_cases hlt : (i : Int) < (l.length : Int)
 ·have hib : i < l.length := by omega
  have ew : IntKind.i64.wrap ((i : Int) + 1) = ((i + 1 : Nat) : Int) := by rw [i64w]; omega
  have hbad : (insOne l[i] = false ∨ depsO l[i] = false ∨ l[i].d ∈ (l.take i).map (·.d)) → goodO l = false := by
   intro hb
   rw [Bool.eq_false_iff]
   intro hg
   unfold goodO at hg
   simp only [Bool.and_eq_true, decide_eq_true_eq, List.all_eq_true] at hg
   obtain ⟨⟨g1, g2⟩, _⟩ := hg
   have g3 := g1 _ (List.getElem_mem hib)
   rcases hb with hb | hb | hb
   ·rw [hb] at g3; simp at g3
   ·rw [hb] at g3; simp at g3
   ·have g4 := g2.sublist ((List.take_sublist (i + 1) l).map (·.d))
    rw [List.take_succ_eq_append_getElem hib, List.map_append, List.nodup_append] at g4
    exact g4.2.2 _ hb l[i].d (by simp) rfl
  have hns : (l.take (i + 1)).all (fun x => insOne x && depsO x) = ((l.take i).all (fun x => insOne x && depsO x) && (insOne l[i] && depsO l[i])) := by
   rw [List.take_succ_eq_append_getElem hib, List.all_append]; simp
  have hnd2 := nodup_take hib hnd
  have hmm : ((l.take (i + 1)).map (·.d)).map (fun d => (d, Value.bool true)) = ((l.take i).map (·.d)).map (fun d => (d, Value.bool true)) ++ [(l[i].d, Value.bool true)] := by
   rw [List.take_succ_eq_append_getElem hib, List.map_append, List.map_append]; rfl
  (repeat simp -implicitDefEqProofs only [SE, SU, SV, hlt])
  refine joinK_i ?_
  refine ixA (i := i) (a := a) (l := l) (A := INS) h rfl rfl hib fun g o ha => ?_
  cases ha
  refine ldA0 (i := i) (l := l) (A := INS) h rfl hib (v := .agg (INS.row l[i]).toArray) rfl (by simp [INS]) ?_
  generalize l[i] = y at *
  rw [show (INS.row y).toArray = #[.int .i64 y.d.rep, .int .i64 y.d.n, .int .i64 y.s, .int .i64 y.v.x0, .int .i64 y.v.x1, .int .i64 y.v.x2, .int .i64 y.v.x3, .int .i64 y.v.x4, .int .i64 y.v.x5, .int .i64 y.v.x6] from rfl]
  have ed : dotO ⟨y.d.rep, y.d.n⟩ = dotO y.d := rfl
  have esn := seenD ((l.take i).map (·.d)) y.d
  have hno : ∀ W', St W0 L W' → (insOne y = false ∨ depsO y = false ∨ y.d ∈ (l.take i).map (·.d)) → k (.bool false) W' := fun W' h hb => by
   have := hk W' h
   rwa [hbad hb] at this
  cases hd : dotO y.d with
  | false =>
   (repeat (first | ((with_reducible first | refine w1 ?_ | refine w11 ?_); intros) | ((with_reducible refine v5 ?_); refine ⟨_, rfl, ?_⟩) | ((with_reducible refine v12 ?_ ?_); exact rfl; intros) | ((with_reducible refine w5 ?_ ?_); simp; refine ⟨_, rfl, ?_⟩) | ((with_reducible refine w12 ?_ ?_ ?_ ?_); simp; simp; simp [oneC]; intros) | simp -implicitDefEqProofs only [SE, SU, SV, ed, hd]))
   exact hno _ (St.wk (by assumption)) (.inl (by unfold insOne; rw [hd]; rfl))
  | true =>
  by_cases h1 : y.s < 0
  ·(repeat (first | ((with_reducible first | refine w1 ?_ | refine w11 ?_); intros) | ((with_reducible refine v5 ?_); refine ⟨_, rfl, ?_⟩) | ((with_reducible refine v12 ?_ ?_); exact rfl; intros) | ((with_reducible refine w5 ?_ ?_); simp; refine ⟨_, rfl, ?_⟩) | ((with_reducible refine w12 ?_ ?_ ?_ ?_); simp; simp; simp [oneC]; intros) | simp -implicitDefEqProofs only [SE, SU, SV, ed, hd, h1]))
   exact hno _ (St.wk (by assumption)) (.inl (by unfold insOne; rw [hd, decide_eq_true h1]; rfl))
  by_cases h2 : 1099511627776 < y.s
  ·(repeat (first | ((with_reducible first | refine w1 ?_ | refine w11 ?_); intros) | ((with_reducible refine v5 ?_); refine ⟨_, rfl, ?_⟩) | ((with_reducible refine v12 ?_ ?_); exact rfl; intros) | ((with_reducible refine w5 ?_ ?_); simp; refine ⟨_, rfl, ?_⟩) | ((with_reducible refine w12 ?_ ?_ ?_ ?_); simp; simp; simp [oneC]; intros) | simp -implicitDefEqProofs only [SE, SU, SV, ed, hd, h1, h2]))
   exact hno _ (St.wk (by assumption)) (.inl (by unfold insOne; rw [hd, decide_eq_true h2, Bool.not_true, Bool.and_false]))
  have hone : insOne y = true := by unfold insOne; rw [hd, decide_eq_false h1, decide_eq_false h2]; rfl
  (repeat (first | ((with_reducible first | refine w1 ?_ | refine w11 ?_); intros) | ((with_reducible refine v5 ?_); refine ⟨_, rfl, ?_⟩) | ((with_reducible refine v12 ?_ ?_); exact rfl; intros) | ((with_reducible refine w5 ?_ ?_); simp; refine ⟨_, rfl, ?_⟩) | ((with_reducible refine w12 ?_ ?_ ?_ ?_); simp; simp; simp [oneC]; intros) | simp -implicitDefEqProofs only [SE, SU, SV, ed, hd, h1, h2]))
  refine lkp (K := KD) (z := .bool false) y.d (by assumption) ?_
  rw [esn]
  by_cases hs : y.d ∈ (l.take i).map (·.d)
  ·have f1 := decide_eq_true hs
   (repeat simp -implicitDefEqProofs only [SE, SU, SV, f1])
   exact hno _ (St.wk (by assumption)) (.inr (.inr hs))
  have f1 := decide_eq_false hs
  (repeat (first | ((with_reducible refine v5 ?_); refine ⟨_, rfl, ?_⟩) | ((with_reducible refine w5 ?_ ?_); simp; refine ⟨_, rfl, ?_⟩) | simp -implicitDefEqProofs only [SE, SU, SV, f1]))
  refine mset (K := KD) y.d (by assumption) fun W3 h => ?_
  rw [mput_new (fun p hp => by
   obtain ⟨d, hd2, rfl⟩ := List.mem_map.1 hp
   exact fun e => hs (e ▸ hd2)), ← hmm] at h
  (repeat (first | ((with_reducible refine v5 ?_); refine ⟨_, rfl, ?_⟩) | ((with_reducible refine w5 ?_ ?_); simp; refine ⟨_, rfl, ?_⟩) | simp -implicitDefEqProofs only [SE, SU, SV]))
  have h : St W0 (mp KD r (((l.take (i + 1)).map (·.d)).map fun d => (d, Value.bool true)) :: L) W3 := St.wk (by assumption)
  refine loop_c (σ := Unit) 7 (fun j _ => [.slice (some ⟨g, o, none⟩) l.length c, .map (some r), .slice (some ⟨g, o, none⟩) l.length c, .int .i64 l.length, .int .i64 i, .agg #[.int .i64 y.v.x0, .int .i64 y.v.x1, .int .i64 y.v.x2, .int .i64 y.v.x3, .int .i64 y.v.x4, .int .i64 y.v.x5, .int .i64 y.v.x6], .int .i64 j])
   (fun j _ W1 => (∀ t, t < j → 0 ≤ y.v.get t ∧ y.v.get t ≤ 1000) ∧ St W0 (mp KD r (((l.take (i + 1)).map (·.d)).map fun d => (d, Value.bool true)) :: L) W1) () rfl ⟨fun t h => by omega, h⟩ ?_
  clear h
  rintro K2 j _ W4 hj ⟨hdeps, h⟩ hK2
  simp -implicitDefEqProofs only [SE, SU, SV]
  delta S.order_Good.l2 oK oA rD lD eF eU sT cL vC gD gX gP gA gR gL gE gU gC gV hL sB nI
  have hbadd : ∀ W', St W0 L W' → j < 7 → (y.v.get j < 0 ∨ 1000 < y.v.get j) → k (.bool false) W' := fun W' h hj7 hb => hno W' h (.inr (.inl (by
   rw [Bool.eq_false_iff]
   intro hdd
   have := (depsO_iff y).1 hdd j hj7
   omega)))
  by_cases hjt : (j : Int) < 7
  ·have e7 := idxV7i (x := y.v) (i := j) (by omega)
   have ew2 : IntKind.i64.wrap ((j : Int) + 1) = ((j + 1 : Nat) : Int) := by rw [i64w]; omega
   by_cases g1 : y.v.get j < 0
   ·(repeat simp -implicitDefEqProofs only [SE, SU, SV, hjt, e7, g1])
    exact hbadd _ h.drop (by omega) (.inl g1)
   by_cases g2 : 1000 < y.v.get j
   ·(repeat simp -implicitDefEqProofs only [SE, SU, SV, hjt, e7, g1, g2])
    exact hbadd _ h.drop (by omega) (.inr g2)
   (repeat simp -implicitDefEqProofs only [SE, SU, SV, hjt, e7, g1, g2, ew2])
   refine hK2 () _ (by omega) ⟨fun t ht => ?_, h⟩
   by_cases e : t = j
   ·subst e; omega
   ·exact hdeps t (by omega)
  ·(repeat simp -implicitDefEqProofs only [SE, SU, SV, hjt])
   delta S.order_Good.j2 oK oA rD lD eF eU sT cL vC gD gX gP gA gR gL gE gU gC gV hL sB nI
   (repeat simp -implicitDefEqProofs only [SE, SU, SV, ew])
   have hdp : depsO y = true := (depsO_iff y).2 fun t ht => hdeps t (by omega)
   exact hK () _ hib ⟨⟨by rw [hns, hall, hone, hdp]; rfl, hnd2 hs⟩, h⟩
 ·have hil : i = l.length := by omega
  subst hil
  rw [List.take_length] at hall hnd
  (repeat simp -implicitDefEqProofs only [SE, SU, SV, hlt])
  delta S.order_Good.j1 oK oA rD lD eF eU sT cL vC gD gX gP gA gR gL gE gU gC gV hL sB nI
  have e : goodO l = decide ((l.length : Int) ≤ 1000) := by
   unfold goodO
   rw [hall, decide_eq_true hnd, Bool.true_and, Bool.true_and, decide_eq_decide]; omega
  (repeat simp -implicitDefEqProofs only [SE, SU, SV])
  rw [← e]
  exact hk _ h.drop
end
end Go.Proofs.YtfhacbhgmnhmlaaGreat
namespace Go.Tar
set_option linter.unusedVariables false
set_option linter.unusedSimpArgs false
section
variable {α : Type} {le : α → α → Bool}
def ins (le : α → α → Bool) (a : α) : List α → List α
 | [] => [a]
 | b :: l => if le a b then a :: b :: l else b :: ins le a l
def isort (le : α → α → Bool) : List α → List α
 | [] => []
 | a :: l => ins le a (isort le l)
theorem ins_perm (a : α) : ∀ l : List α, (ins le a l).Perm (a :: l)
 | [] => List.Perm.refl _
 | b :: l => by
  unfold ins
  split
  ·exact List.Perm.refl _
  ·exact ((ins_perm a l).cons b).trans (List.Perm.swap a b l)
theorem isort_perm : ∀ l : List α, (isort le l).Perm l
 | [] => List.Perm.refl _
 | a :: l => (ins_perm a _).trans ((isort_perm l).cons a)
theorem ins_sorted (htr : ∀ a b c, le a b = true → le b c = true → le a c = true) (hto : ∀ a b, (le a b || le b a) = true) (a : α) : ∀ l : List α, l.Pairwise (fun x y => le x y = true) → (ins le a l).Pairwise (fun x y => le x y = true)
 | [], _ => by simp [ins]
 | b :: l, h => by
  unfold ins
  by_cases hab : le a b = true
  ·rw [if_pos hab, List.pairwise_cons]
   refine ⟨fun c hc => ?_, h⟩
   rcases List.mem_cons.1 hc with rfl | hc
   ·exact hab
   ·exact htr _ _ _ hab ((List.pairwise_cons.1 h).1 c hc)
  ·rw [if_neg hab, List.pairwise_cons]
   refine ⟨fun c hc => ?_, ins_sorted htr hto a l (List.pairwise_cons.1 h).2⟩
   rcases List.mem_cons.1 ((ins_perm a l).mem_iff.1 hc) with rfl | hc
   ·have := hto b c
    simp only [Bool.or_eq_true] at this
    exact this.resolve_right hab
   ·exact (List.pairwise_cons.1 h).1 c hc
theorem isort_sorted (htr : ∀ a b c, le a b = true → le b c = true → le a c = true) (hto : ∀ a b, (le a b || le b a) = true) : ∀ l : List α, (isort le l).Pairwise (fun x y => le x y = true)
 | [] => List.Pairwise.nil
 | a :: l => ins_sorted htr hto a _ (isort_sorted htr hto l)
end
end Go.Tar
namespace Go.Proofs.YtfhacbhgmnhmlaaGreat
set_option linter.unusedVariables false
set_option linter.unusedSimpArgs false
open Go Go.Eng Go.Sort
def sortO (l : List Ins) : List Ins := Go.Tar.isort (fun x y => !decide (insLt y x)) l
theorem insNot_trans (a b c : Ins) (h1 : ¬ insLt b a) (h2 : ¬ insLt c b) : ¬ insLt c a := by unfold insLt at *; omega
theorem insNot_total (a b : Ins) : ¬ insLt b a ∨ ¬ insLt a b := by unfold insLt; omega
theorem sortO_perm (l : List Ins) : (sortO l).Perm l := Go.Tar.isort_perm l
theorem sortO_len (l : List Ins) : (sortO l).length = l.length := (sortO_perm l).length_eq
theorem sortO_sorted (l : List Ins) : insSorted (sortO l) :=
 (Go.Tar.isort_sorted (fun a b c h1 h2 => by
  simp only [Bool.not_eq_true', decide_eq_false_iff_not] at *
  exact insNot_trans a b c h1 h2) (fun a b => by
  simp only [Bool.or_eq_true, Bool.not_eq_true', decide_eq_false_iff_not]
  exact insNot_total a b) l).imp fun {a b} h => by simpa using h
theorem ins_inj {l : List Ins} (hn : (l.map (·.d)).Nodup) {a b : Ins} (ha : a ∈ l) (hb : b ∈ l) (h : a.d = b.d) : a = b := by
 obtain ⟨i, hi, rfl⟩ := List.getElem_of_mem ha
 obtain ⟨j, hj, rfl⟩ := List.getElem_of_mem hb
 have h3 := List.getElem_inj (h₀ := by simpa using hi) (h₁ := by simpa using hj) (i := i) (j := j) hn
 have := h3.1 (by simpa using h)
 subst this; rfl
theorem sorted_one {l m m' : List Ins} (hn : (l.map (·.d)).Nodup) (h1 : m.Perm l) (h2 : m'.Perm l) (s1 : insSorted m) (s2 : insSorted m') : m = m' :=
 List.Perm.eq_of_pairwise (le := fun x y => ¬ insLt y x) (fun a b ha hb g1 g2 => ins_inj hn (h1.mem_iff.1 ha) (h2.mem_iff.1 hb) (insLt_same g2 g1)) s1 s2 (h1.trans h2.symm)
theorem sortO_eq {l m : List Ins} (hn : (l.map (·.d)).Nodup) (h1 : m.Perm l) (s1 : insSorted m) : m = sortO l := sorted_one hn h1 (sortO_perm l) s1 (sortO_sorted l)
theorem sortO_nodup {l : List Ins} (hn : (l.map (·.d)).Nodup) : ((sortO l).map (·.d)).Nodup := ((sortO_perm l).map (·.d)).nodup_iff.2 hn
def plL (l : List Ins) : List (Dot × Value) := l.zipIdx.map fun x => (x.1.d, Value.int .i64 (x.2 : Int))
theorem plL_take (l : List Ins) {i : Nat} (hi : i < l.length) : plL (l.take (i + 1)) = plL (l.take i) ++ [(l[i].d, Value.int .i64 (i : Int))] := by
 unfold plL
 rw [List.take_succ_eq_append_getElem hi, List.zipIdx_append, List.map_append]
 congr 1
 simp [Nat.min_eq_left (Nat.le_of_lt hi)]
theorem plL_keys (l : List Ins) : (plL l).map (·.1) = l.map (·.d) := by
 unfold plL
 rw [List.map_map]
 apply List.ext_getElem
 ·simp
 ·intro i h1 h2; simp
structure WX where
 a : Option Addr
 c : Nat
 r : Nat
def wb (p : Nat) (l : List Ins) : Asn := fun h => ∃ x : WX, sep [cells p [.slice x.a l.length x.c, .map (some x.r)] T_order_web, arr INS T_order_Inst x.a x.c l, mp KD x.r (plL l)] h
section
variable {W0 W : World} {L L' : List Asn} {p : Nat}
theorem wb_at {l : List Ins} (h : St W0 (wb p l :: L) W) : ∃ a c r, St W0 (cells p [.slice a l.length c, .map (some r)] T_order_web :: arr INS T_order_Inst a c l :: mp KD r (plL l) :: L) W := by
 obtain ⟨x, h⟩ := h.ex
 exact ⟨x.a, x.c, x.r, h.flat⟩
theorem wb_ent {l : List Ins} {a : Option Addr} {c r : Nat} : ent (cells p [.slice a l.length c, .map (some r)] T_order_web :: arr INS T_order_Inst a c l :: mp KD r (plL l) :: L) (wb p l :: L) :=
 (ent.pack [_, _, _] L).trans (ent.weak fun _ hp => ⟨⟨a, c, r⟩, hp⟩)
set_option maxRecDepth 100000 in
set_option maxHeartbeats 4000000 in
theorem ordWeave {a : Option Addr} {c : Nat} {l : List Ins} {k : Value → World → Prop} (h : St W0 L W) [hr : Rd W0 L a INS l] (hl : l.length < 1000000) (hn : (l.map (·.d)).Nodup)
  (hk : ∀ p W', St W0 (wb p (sortO l) :: L) W' → k (.pointer (some ⟨p, 0, none⟩)) W') : callK PR F_order_weave [.slice a l.length c] k W := by
 apply S.order_weave.call
 delta S.order_weave.body oK oA rD lD eF eU sT cL vC gD gX gP gA gR gL gE gU gC gV hL sB nI
 refine insClone (a := a) (l := l) h hl fun a1 c1 W1 h => ?_
 refine insSort (a := a1) (l := l) h hl hn fun m W2 hp hs h => ?_
 have hm := sortO_eq hn hp hs
 subst hm
 have hln := sortO_len l
 have hnd := sortO_nodup hn
 rw [← hln]
 clear hs hp
 generalize sortO l = m at *
 refine mkMap (K := KD) h fun r W3 h => ?_
 (repeat (first | ((with_reducible refine w3 ?_); intros) | (refine okF_i (bldP_eq rfl) ?_; try simp only [BLS, SB, Nat.reduceAdd]) | simp -implicitDefEqProofs only [SE, SU, SV]))
 rename_i p W4 h
 (try simp only [BLS, SB, stL_a, stL_b, stL_c, lsub_a, lsub_b, lsub_c, List.append_nil, List.take_nil, List.drop_nil, Nat.reduceAdd] at h)
 refine joinK_i ?_
 skip
 refine loop_c (σ := Unit) m.length (fun i _ => [.pointer (some ⟨p, 0, none⟩), .slice a1 m.length c1, .int .i64 m.length, .int .i64 i])
  (fun i _ W1 => St W0 (cells p [.slice a1 m.length c1, .map (some r)] T_order_web :: arr INS T_order_Inst a1 c1 m :: mp KD r (plL (m.take i)) :: L) W1) () rfl (show St W0 (cells p [.slice a1 m.length c1, .map (some r)] T_order_web :: arr INS T_order_Inst a1 c1 m :: mp KD r [] :: L) _ from St.wk h) ?_
 clear h
 rintro K i _ W5 hi h hK
 simp -implicitDefEqProofs only [SE, SU, SV]
 delta S.order_weave.l1 oK oA rD lD eF eU sT cL vC gD gX gP gA gR gL gE gU gC gV hL sB nI
 by_cases hlt : (i : Int) < (m.length : Int)
 ·have hib : i < m.length := by omega
  have ew : IntKind.i64.wrap ((i : Int) + 1) = ((i + 1 : Nat) : Int) := by rw [i64w]; omega
  have hpt := plL_take m hib
  have hno : ∀ q ∈ plL (m.take i), q.1 ≠ m[i].d := fun q hq e => by
   have h1 : q.1 ∈ (m.take i).map (·.d) := by rw [← plL_keys]; exact List.mem_map.2 ⟨q, hq, rfl⟩
   have h2 := hnd.sublist ((List.take_sublist (i + 1) m).map (·.d))
   rw [List.take_succ_eq_append_getElem hib, List.map_append, List.nodup_append] at h2
   exact h2.2.2 _ h1 m[i].d (by simp) e
  (repeat simp -implicitDefEqProofs only [SE, SU, SV, hlt])
  refine ixA (i := i) (a := a1) (l := m) (A := INS) h rfl rfl hib fun g o ha => ?_
  cases ha
  refine ldA0 (i := i) (l := m) (A := INS) h rfl hib (v := .agg (INS.row m[i]).toArray) rfl (by simp [INS]) ?_
  rw [show (INS.row m[i]).toArray = #[.int .i64 (m[i].d).rep, .int .i64 (m[i].d).n, .int .i64 m[i].s, .int .i64 (m[i].v).x0, .int .i64 (m[i].v).x1, .int .i64 (m[i].v).x2, .int .i64 (m[i].v).x3, .int .i64 (m[i].v).x4, .int .i64 (m[i].v).x5, .int .i64 (m[i].v).x6] from rfl]
  (repeat (first | ((with_reducible refine w11 ?_); intros) | ((with_reducible refine v5 ?_); refine ⟨_, rfl, ?_⟩) | ((with_reducible refine v12 ?_ ?_); exact rfl; intros) | ((with_reducible refine w5 ?_ ?_); simp; refine ⟨_, rfl, ?_⟩) | ((with_reducible refine w12 ?_ ?_ ?_ ?_); simp; simp; simp [oneC]; intros) | simp -implicitDefEqProofs only [SE, SU, SV]))
  refine mset (K := KD) m[i].d (by exact St.tick (by assumption)) fun W6 h => ?_
  rw [mput_new hno, ← hpt] at h
  (repeat simp -implicitDefEqProofs only [SE, SU, SV, ew])
  exact hK () _ hib (St.wk (by assumption))
 ·have hil : i = m.length := by omega
  subst hil
  rw [List.take_length] at h
  (repeat simp -implicitDefEqProofs only [SE, SU, SV, hlt])
  delta S.order_weave.j1 oK oA rD lD eF eU sT cL vC gD gX gP gA gR gL gE gU gC gV hL sB nI
  exact hk p _ (h.ent wb_ent)
end
end Go.Proofs.YtfhacbhgmnhmlaaGreat
namespace Go.Proofs.YtfhacbhgmnhmlaaGreat
set_option linter.unusedVariables false
set_option linter.unusedSimpArgs false
open Go Go.Eng
def depsR (x : Ins) (r : Nat) : List Dot := (((List.range (x.v.get r).toNat).map fun k : Nat => (⟨(r : Int), (k : Int) + 1⟩ : Dot))).filter fun d => !decide (d = x.d)
def depsL (x : Ins) : List Dot := (List.range 7).flatMap (depsR x)
def eachF {σ : Type} (q : σ → Dot → Bool) (t : σ → Dot → σ) : List Dot → σ → Bool × σ
 | [], s => (true, s)
 | d :: ds, s => if q s d then eachF q t ds (t s d) else (false, t s d)
theorem depsL_drop (x : Ins) {j : Nat} (h : j < 7) : ((List.range 7).drop j).flatMap (depsR x) = depsR x j ++ ((List.range 7).drop (j + 1)).flatMap (depsR x) := by
 rw [List.drop_eq_getElem_cons (by simpa using h), List.flatMap_cons]; simp
theorem depsR_drop (x : Ins) (r : Nat) {m : Nat} (h : m < (x.v.get r).toNat) : (((List.range (x.v.get r).toNat).drop m).map fun k : Nat => (⟨(r : Int), (k : Int) + 1⟩ : Dot)) = ⟨(r : Int), (m : Int) + 1⟩ :: (((List.range (x.v.get r).toNat).drop (m + 1)).map fun k : Nat => (⟨(r : Int), (k : Int) + 1⟩ : Dot)) := by
 rw [List.drop_eq_getElem_cons (by simpa using h), List.map_cons]; simp
section
variable {W0 W : World} {L : List Asn} {p : Nat} {σ : Type} {C : σ → Asn} {fv : Value} {q : σ → Dot → Bool} {t : σ → Dot → σ} {sl : List Ins}
set_option maxRecDepth 100000 in
set_option maxHeartbeats 4000000 in
theorem ordEach {I : Nat → σ → Prop} {s : σ} {i : Nat} {k : Value → World → Prop} (hI : ∀ m s d, I m s → I (m + 1) (t s d)) (hI0 : I 0 s) (hcb : ∀ m s d W (k : Value → World → Prop), m < 7000 → (0 ≤ d.rep ∧ d.rep < 7) → I m s → St W0 (C s :: wb p sl :: L) W → (∀ W', St W0 (C (t s d) :: wb p sl :: L) W' → k (.bool (q s d)) W') → vcK PR fv [KD d] k W)
  (h : St W0 (C s :: wb p sl :: L) W) (hi : i < sl.length) (hd : depsO sl[i] = true) (hk : ∀ W', St W0 (C (eachF q t (depsL sl[i]) s).2 :: wb p sl :: L) W' → k (.bool (eachF q t (depsL sl[i]) s).1) W') :
  callK PR F_order_web_each [.pointer (some ⟨p, 0, none⟩), .int .i64 (i : Int), fv] k W := by
 apply S.order_web_each.call
 delta S.order_web_each.body oK oA rD lD eF eU sT cL vC gD gX gP gA gR gL gE gU gC gV hL sB nI
 obtain ⟨a, c, r, h⟩ := wb_at (St.perm h (List.Perm.swap _ _ _))
 have hdo := (depsO_iff _).1 hd
 (repeat (first | ((with_reducible refine v5 ?_); refine ⟨_, rfl, ?_⟩) | simp -implicitDefEqProofs only [SE, SU, SV]))
 refine ixA (i := i) (a := a) (l := sl) (A := INS) (by assumption) rfl rfl hi fun g o ha => ?_
 cases ha
 (repeat simp -implicitDefEqProofs only [SE, SU, SV])
 refine ldA (i := i) (j := 3) (l := sl) (A := INS) (by assumption) rfl hi (v := .agg #[.int .i64 (sl[i].v).x0, .int .i64 (sl[i].v).x1, .int .i64 (sl[i].v).x2, .int .i64 (sl[i].v).x3, .int .i64 (sl[i].v).x4, .int .i64 (sl[i].v).x5, .int .i64 (sl[i].v).x6]) rfl (by simp [INS]) ?_
 generalize hx : sl[i] = x at *
 have h : St W0 (C s :: wb p sl :: L) W := St.perm (St.ent (by assumption) wb_ent) (List.Perm.swap _ _ _)
 refine loop_c (σ := σ) 7 (fun j _ => [.pointer (some ⟨p, 0, none⟩), .int .i64 (i : Int), fv, .agg #[.int .i64 x.v.x0, .int .i64 x.v.x1, .int .i64 x.v.x2, .int .i64 x.v.x3, .int .i64 x.v.x4, .int .i64 x.v.x5, .int .i64 x.v.x6], .int .i64 j])
  (fun j s1 W1 => (∃ m, m ≤ j * 1000 ∧ I m s1) ∧ eachF q t (depsL x) s = eachF q t (((List.range 7).drop j).flatMap (depsR x)) s1 ∧ St W0 (C s1 :: wb p sl :: L) W1) s rfl ⟨⟨0, Nat.zero_le _, hI0⟩, rfl, h⟩ ?_
 clear h
 rintro K j s1 W2 hj ⟨hm1, he, h⟩ hK
 simp -implicitDefEqProofs only [SE, SU, SV]
 delta S.order_web_each.l1 oK oA rD lD eF eU sT cL vC gD gX gP gA gR gL gE gU gC gV hL sB nI
 by_cases hjt : (j : Int) < 7
 ·have hj7 : j < 7 := by omega
  have e7 := idxV7i (x := x.v) (i := j) hj7
  have ew : IntKind.i64.wrap ((j : Int) + 1) = ((j + 1 : Nat) : Int) := by rw [i64w]; omega
  rw [depsL_drop x hj7] at he
  have hb := hdo j hj7
  have hnn : ((x.v.get j).toNat : Int) = x.v.get j := Int.toNat_of_nonneg hb.1
  (repeat simp -implicitDefEqProofs only [SE, SU, SV, hjt])
  refine joinK_i ?_
  (repeat simp -implicitDefEqProofs only [SE, SU, SV, e7])
  refine loop_c (σ := σ) (x.v.get j).toNat (fun m _ => [.pointer (some ⟨p, 0, none⟩), .int .i64 (i : Int), fv, .int .i64 j, .int .i64 (x.v.get j), .int .i64 ((m : Int) + 1), .agg #[.int .i64 x.v.x0, .int .i64 x.v.x1, .int .i64 x.v.x2, .int .i64 x.v.x3, .int .i64 x.v.x4, .int .i64 x.v.x5, .int .i64 x.v.x6], .int .i64 j])
   (fun m s2 W1 => (∃ u, u ≤ j * 1000 + m ∧ I u s2) ∧ eachF q t (depsL x) s = eachF q t ((((List.range (x.v.get j).toNat).drop m).map fun k : Nat => (⟨(j : Int), (k : Int) + 1⟩ : Dot)).filter (fun d => !decide (d = x.d)) ++ ((List.range 7).drop (j + 1)).flatMap (depsR x)) s2 ∧ St W0 (C s2 :: wb p sl :: L) W1) s1 rfl ⟨hm1, he, h⟩ ?_
  clear h he hm1
  rintro K2 m s2 W3 hm ⟨⟨u, hu, hus⟩, he, h⟩ hK2
  simp -implicitDefEqProofs only [SE, SU, SV]
  delta S.order_web_each.l2 oK oA rD lD eF eU sT cL vC gD gX gP gA gR gL gE gU gC gV hL sB nI
  by_cases hmt : (m : Int) + 1 ≤ x.v.get j
  ·have hm2 : m < (x.v.get j).toNat := by omega
   have ew2 : IntKind.i64.wrap ((m : Int) + 1 + 1) = ((m + 1 : Nat) : Int) + 1 := by rw [i64w]; omega
   rw [depsR_drop x j hm2, List.filter_cons] at he
   obtain ⟨a, c, r, h⟩ := wb_at (St.perm h (List.Perm.swap _ _ _))
   (repeat (first | ((with_reducible refine w11 ?_); intros) | ((with_reducible refine v5 ?_); refine ⟨_, rfl, ?_⟩) | ((with_reducible refine v12 ?_ ?_); exact rfl; intros) | ((with_reducible refine w5 ?_ ?_); simp; refine ⟨_, rfl, ?_⟩) | ((with_reducible refine w12 ?_ ?_ ?_ ?_); simp; simp; simp [oneC]; intros) | (refine okF_i (bldP_eq rfl) ?_; try simp only [BLS, SB, Nat.reduceAdd]) | simp -implicitDefEqProofs only [SE, SU, SV, hmt]))
   refine ixA (i := i) (a := a) (l := sl) (A := INS) (by assumption) rfl rfl hi fun g2 o2 ha => ?_
   cases ha
   (repeat simp -implicitDefEqProofs only [SE, SU, SV])
   refine ldA0 (i := i) (l := sl) (A := INS) (by exact St.tick (by assumption)) rfl hi (v := .agg #[.int .i64 x.d.rep, .int .i64 x.d.n]) (by rw [hx]; rfl) (by simp [INS]) ?_
   have hdd : (decide ((j : Int) = x.d.rep) && decide ((m : Int) + 1 = x.d.n)) = decide ((⟨(j : Int), (m : Int) + 1⟩ : Dot) = x.d) := by
    rw [Bool.eq_iff_iff]
    obtain ⟨⟨r', n'⟩, _, _⟩ := x
    simp
   rename_i pb _ W4 _ h
   (try simp only [BLS, SB, stL_a, stL_b, stL_c, lsub_a, lsub_b, lsub_c, List.append_nil, List.take_nil, List.drop_nil, Nat.reduceAdd] at h)
   have h6 : Unit → St W0 (C s2 :: wb p sl :: L) W4 := fun _ => by
    have h5 : St W0 (cells p [.slice (some ⟨g2, o2, none⟩) sl.length c, .map (some r)] T_order_web :: arr INS T_order_Inst (some ⟨g2, o2, none⟩) c sl :: mp KD r (plL sl) :: C s2 :: L) W4 := St.wk h
    exact St.perm (h5.ent wb_ent) (List.Perm.swap _ _ _)
   by_cases hdx : (⟨(j : Int), (m : Int) + 1⟩ : Dot) = x.d
   ·rw [decide_eq_true hdx] at hdd
    rw [decide_eq_true hdx, Bool.not_true, if_neg (by simp)] at he
    (repeat (first | ((with_reducible refine vn ?_); refine ⟨_, rfl, ?_⟩) | simp -implicitDefEqProofs only [SE, SU, SV, hdd, ew2]))
    exact hK2 s2 _ hm2 ⟨⟨u, by omega, hus⟩, he, (h6 ()).tick⟩
   ·rw [decide_eq_false hdx] at hdd
    rw [decide_eq_false hdx, Bool.not_false, if_pos rfl] at he
    (repeat (first | ((with_reducible first | refine v5 ?_ | refine vn ?_); refine ⟨_, rfl, ?_⟩) | simp -implicitDefEqProofs only [SE, SU, SV, hdd]))
    refine hcb u s2 ⟨(j : Int), (m : Int) + 1⟩ _ _ (by omega) ⟨by simp only; omega, by simp only; omega⟩ hus (h6 ()).tick fun W5 h => ?_
    rw [List.cons_append, eachF] at he
    cases hq : q s2 ⟨(j : Int), (m : Int) + 1⟩ with
    | true =>
     rw [hq, if_pos rfl] at he
     (repeat simp -implicitDefEqProofs only [SE, SU, SV, ew2])
     exact hK2 _ _ hm2 ⟨⟨u + 1, by omega, hI _ _ _ hus⟩, he, h⟩
    | false =>
     rw [hq, if_neg (by simp)] at he
     rw [he] at hk
     (repeat simp -implicitDefEqProofs only [SE, SU, SV])
     exact hk _ h
  ·have hm2 : m = (x.v.get j).toNat := by omega
   subst hm2
   have e0 : (List.range (x.v.get j).toNat).drop (x.v.get j).toNat = [] := by simp
   rw [e0] at he
   (repeat simp -implicitDefEqProofs only [SE, SU, SV, hmt])
   delta S.order_web_each.j1 oK oA rD lD eF eU sT cL vC gD gX gP gA gR gL gE gU gC gV hL sB nI
   (repeat simp -implicitDefEqProofs only [SE, SU, SV, ew])
   exact hK s2 _ hj7 ⟨⟨u, by omega, hus⟩, he, h⟩
 ·have hj7 : j = 7 := by omega
  subst hj7
  rw [show eachF q t (((List.range 7).drop 7).flatMap (depsR x)) s1 = (true, s1) from rfl] at he
  rw [he] at hk
  (repeat simp -implicitDefEqProofs only [SE, SU, SV, hjt])
  exact hk _ h
end
end Go.Proofs.YtfhacbhgmnhmlaaGreat
namespace Go.Proofs.YtfhacbhgmnhmlaaGreat
set_option linter.unusedVariables false
set_option linter.unusedSimpArgs false
open Go Go.Eng
structure ISl where
 a : Option Addr
 c : Nat
 l : List Int
abbrev ISl.v (x : ISl) : Value := .slice x.a x.l.length x.c
instance : Inhabited ISl := ⟨⟨none, 0, []⟩⟩
def ISY : Ly ISl := ⟨1, by omega, fun x => [x.v], fun _ => rfl, fun _ => rfl⟩
@[reducible] def ich (x : ISl) : Asn := arr I64 T_int x.a x.c x.l
def LI (a : Option Addr) (c : Nat) (vs : List (List Int)) : Asn := fun h => ∃ rows : List ISl, rows.map (·.l) = vs ∧ sep [arr ISY T_s_int a c rows, many ich rows] h
section
variable {W0 W : World} {L L' : List Asn} {a : Option Addr} {c : Nat} {vs : List (List Int)}
theorem li_at (h : St W0 (LI a c vs :: L) W) : ∃ rows : List ISl, rows.map (·.l) = vs ∧ St W0 (arr ISY T_s_int a c rows :: many ich rows :: L) W := by
 obtain ⟨rows, h⟩ := h.ex
 obtain ⟨h1, h⟩ := h.fact
 exact ⟨rows, h1, h.flat⟩
theorem li_ent {rows : List ISl} (h : rows.map (·.l) = vs) : ent (arr ISY T_s_int a c rows :: many ich rows :: L) (LI a c vs :: L) :=
 (ent.pack [_, _] L).trans (ent.weak fun _ hp => ⟨rows, h, hp⟩)
theorem permPick {α : Type} (l : List α) {i : Nat} (hi : i < l.length) : l.Perm (l[i] :: (l.take i ++ l.drop (i + 1))) := by
 conv => lhs; rw [← List.take_append_drop i l, List.drop_eq_getElem_cons hi]
 exact List.perm_middle
theorem ich_pick (rows : List ISl) {i : Nat} (hi : i < rows.length) : ent (many ich rows :: L) (ich rows[i] :: many ich (rows.take i ++ rows.drop (i + 1)) :: L) :=
 (many_perm (F := ich) (permPick rows hi)).trans (many_cons _ _)
theorem ich_place (rows : List ISl) {i : Nat} (hi : i < rows.length) (x : ISl) : ent (ich x :: many ich (rows.take i ++ rows.drop (i + 1)) :: L) (many ich (rows.set i x) :: L) := by
 refine (many_uncons (F := ich) x _).trans (many_perm (F := ich) ?_)
 have h := (permPick (rows.set i x) (i := i) (by simpa using hi)).symm
 simp only [List.getElem_set_self] at h
 rw [List.take_set_of_le (Nat.le_refl i), List.drop_set_of_lt (Nat.lt_succ_self i)] at h
 exact h
theorem ich_rd {rows : List ISl} {x : ISl} (hx : x ∈ rows) : Rd W0 (many ich rows :: L) x.a I64 x.l := ⟨fun W h => by
 obtain ⟨A, C, rfl⟩ := List.append_of_mem hx
 have h1 := h.ent ((many_perm (F := ich) (List.perm_middle (a := x) (l₁ := A) (l₂ := C))).trans (many_cons _ _))
 have hr : Rd W0 (arr I64 T_int x.a x.c x.l :: many ich (A ++ C) :: L) x.a I64 x.l := inferInstance
 exact hr.ok W h1⟩
end
end Go.Proofs.YtfhacbhgmnhmlaaGreat
namespace Go.Proofs.YtfhacbhgmnhmlaaGreat
set_option linter.unusedVariables false
set_option linter.unusedSimpArgs false
open Go Go.Eng
def plcO (sl : List Ins) (d : Dot) : Option Nat := sl.findIdx? fun x => decide (x.d = d)
theorem plcO_mget (sl : List Ins) (d : Dot) : mget (plL sl) d = (plcO sl d).map fun k : Nat => Value.int .i64 (k : Int) := by
 have key : ∀ (l : List Ins) (n : Nat), mget ((l.zipIdx n).map fun x => (x.1.d, Value.int .i64 (x.2 : Int))) d = (l.findIdx? fun x => decide (x.d = d)).map fun k : Nat => Value.int .i64 ((n + k : Nat) : Int) := by
  intro l
  induction l with
  | nil => intro n; rfl
  | cons x l ih =>
   intro n
   rw [List.zipIdx_cons, List.map_cons]
   simp only [mget, List.findIdx?_cons]
   by_cases h : x.d = d
   ·rw [if_pos h, decide_eq_true h]; rfl
   ·rw [if_neg h, decide_eq_false h, ih (n + 1)]
    simp only [Bool.false_eq_true, if_false, Option.map_map]
    congr 1
    funext k
    simp only [Function.comp_def]
    congr 1
    omega
 have := key sl 0
 unfold plL plcO
 rw [this]
 simp
def onStep (sl : List Ins) (i : Nat) (vs : List (List Int)) (d : Dot) : List (List Int) :=
 match plcO sl d with
 | some k => vs.set i (vs.getD i [] ++ [(k : Int)])
 | none => vs
def onC (p b1 b3 b4 n i : Nat) (a : Option Addr) (c : Nat) (vs : List (List Int)) : Asn :=
 sep [cells b1 [.pointer (some ⟨p, 0, none⟩)] T_p_order_web, cells b3 [.slice a n c] T_s_s_int, cells b4 [.int .i64 (i : Int)] T_int, LI a c vs]
section
variable {W0 W : World} {L L' : List Asn}
set_option maxRecDepth 100000 in
set_option maxHeartbeats 4000000 in
theorem ordOn1 {p b1 b3 b4 n i : Nat} {a : Option Addr} {c : Nat} {vs : List (List Int)} {sl : List Ins} {d : Dot} {k : Value → World → Prop} (hvs : vs.length = n) (hi : i < n) (hle : (vs.getD i []).length < 1000000)
  (h : St W0 (onC p b1 b3 b4 n i a c vs :: wb p sl :: L) W) (hk : ∀ W', St W0 (onC p b1 b3 b4 n i a c (onStep sl i vs d) :: wb p sl :: L) W' → k (.bool true) W') :
  callK PR F_order_web_on_1 [KD d, .pointer (some ⟨b1, 0, none⟩), .pointer (some ⟨b3, 0, none⟩), .pointer (some ⟨b4, 0, none⟩)] k W := by
 apply S.order_web_on_1.call
 delta S.order_web_on_1.body oK oA rD lD eF eU sT cL vC gD gX gP gA gR gL gE gU gC gV hL sB nI
 have h : St W0 (cells b1 [.pointer (some ⟨p, 0, none⟩)] T_p_order_web :: cells b3 [.slice a n c] T_s_s_int :: cells b4 [.int .i64 (i : Int)] T_int :: LI a c vs :: wb p sl :: L) W := h.flat
 have h : St W0 (wb p sl :: cells b1 [.pointer (some ⟨p, 0, none⟩)] T_p_order_web :: cells b3 [.slice a n c] T_s_s_int :: cells b4 [.int .i64 (i : Int)] T_int :: LI a c vs :: L) W := St.wk h
 obtain ⟨wa, wc, wr, h⟩ := wb_at h
 refine bxa h fun db W1 h => ?_
 (repeat (first | ((with_reducible refine v5 ?_); refine ⟨_, rfl, ?_⟩) | simp -implicitDefEqProofs only [SE, SU, SV]))
 refine lkpOk (K := KD) (z := .int .i64 0) d (by exact St.tick (by assumption)) ?_
 rw [plcO_mget]
 unfold onStep at hk
 cases hp : plcO sl d with
 | none =>
  rw [hp] at hk
  (repeat simp -implicitDefEqProofs only [SE, SU, SV])
  refine hk _ ?_
  have h5 : St W0 (cells p [.slice wa sl.length wc, .map (some wr)] T_order_web :: arr INS T_order_Inst wa wc sl :: mp KD wr (plL sl) :: cells b1 [.pointer (some ⟨p, 0, none⟩)] T_p_order_web :: cells b3 [.slice a n c] T_s_s_int :: cells b4 [.int .i64 (i : Int)] T_int :: LI a c vs :: L) _ := St.wk (by assumption)
  have h6 := h5.ent wb_ent
  have h7 : St W0 (cells b1 [.pointer (some ⟨p, 0, none⟩)] T_p_order_web :: cells b3 [.slice a n c] T_s_s_int :: cells b4 [.int .i64 (i : Int)] T_int :: LI a c vs :: wb p sl :: L) _ := St.wk h6
  exact (h7.ent (ent.pack [_, _, _, _] _)).tick
 | some j =>
  rw [hp] at hk
  simp only [Option.map_some, Option.getD_some, Option.isSome_some]
  obtain ⟨rows, hrows, h⟩ := li_at (St.wk (L' := LI a c vs :: cells db [.int .i64 d.rep, .int .i64 d.n] T_api_Dot :: cells p [.slice wa sl.length wc, .map (some wr)] T_order_web :: arr INS T_order_Inst wa wc sl :: mp KD wr (plL sl) :: cells b1 [.pointer (some ⟨p, 0, none⟩)] T_p_order_web :: cells b3 [.slice a n c] T_s_s_int :: cells b4 [.int .i64 (i : Int)] T_int :: L) h)
  have hrl : rows.length = n := by rw [← hvs, ← hrows, List.length_map]
  have hib : i < rows.length := by omega
  have hvi : vs.getD i [] = rows[i].l := by rw [← hrows, List.getD_eq_getElem?_getD, List.getElem?_map, List.getElem?_eq_getElem hib]; rfl
  rw [hvi] at hle hk
  have h := h.ent (ent.cons _ (ich_pick rows hib))
  obtain ⟨g, o, rfl, _⟩ := Rd.at (A := ISY) (l := rows) (a := a) h (by intro e; rw [e] at hib; simp at hib)
  have ei : idxS 1 (.slice (some ⟨g, o, none⟩) n c) (.int .i64 (i : Int)) = some (.pointer (some ⟨g, o + i * 1, none⟩)) := by rw [idxS_blk (by omega) (by omega), Int.toNat_natCast]
  (repeat (first | ((with_reducible refine v5 ?_); refine ⟨_, rfl, ?_⟩) | simp -implicitDefEqProofs only [SE, SU, SV, ei]))
  refine ldA0 (i := i) (l := rows) (A := ISY) (by exact St.tick (St.tick (by assumption))) rfl hib (v := rows[i].v) rfl (by simp) ?_
  refine bsA I64 [(j : Int)] (n := 1) (by exact St.tick (St.tick (by assumption))) rfl rfl (by decide) (by decide) rfl fun a5 c5 W5 h => ?_
  refine stb_ldA0 (i := i) (l := rows) (A := ISY) h rfl hib (v := rows[i].v) rfl (by simp) ?_
  (repeat (first | ((with_reducible refine stb_n ?_); intros) | ((with_reducible refine v8 ?_ ?_); exact rfl; intros)))
  refine appA (A := I64) (a := rows[i].a) (l := rows[i].l) (m := [(j : Int)]) (by assumption) rfl (by simp only [List.length_cons, List.length_nil]; omega) (by simp only [List.length_cons, List.length_nil, maxLen]; omega) fun a6 c6 W6 h => ?_
  (repeat (first | ((with_reducible refine stb_n ?_); intros) | ((with_reducible refine v8 ?_ ?_); exact rfl; intros)))
  have h : St W0 (arr ISY T_s_int (some ⟨g, o, none⟩) c rows :: ich ⟨a6, c6, rows[i].l ++ [(j : Int)]⟩ :: many ich (rows.take i ++ rows.drop (i + 1)) :: cells p [.slice wa sl.length wc, .map (some wr)] T_order_web :: arr INS T_order_Inst wa wc sl :: mp KD wr (plL sl) :: cells b1 [.pointer (some ⟨p, 0, none⟩)] T_p_order_web :: cells b3 [.slice (some ⟨g, o, none⟩) n c] T_s_s_int :: cells b4 [.int .i64 (i : Int)] T_int :: L) W6 := St.wk h
  refine stA (i := i) (x := (⟨a6, c6, rows[i].l ++ [(j : Int)]⟩ : ISl)) (l := rows) (A := ISY) h rfl hib rfl fun W7 h => ?_
  refine hk _ ?_
  have h := (h.ent (ent.cons _ (ich_place rows hib ⟨a6, c6, rows[i].l ++ [(j : Int)]⟩))).ent (li_ent (vs := vs.set i (rows[i].l ++ [(j : Int)])) (by rw [List.map_set, hrows]))
  have h : St W0 (cells p [.slice wa sl.length wc, .map (some wr)] T_order_web :: arr INS T_order_Inst wa wc sl :: mp KD wr (plL sl) :: cells b1 [.pointer (some ⟨p, 0, none⟩)] T_p_order_web :: cells b3 [.slice (some ⟨g, o, none⟩) n c] T_s_s_int :: cells b4 [.int .i64 (i : Int)] T_int :: LI (some ⟨g, o, none⟩) c (vs.set i (rows[i].l ++ [(j : Int)])) :: L) W7 := St.wk h
  have h := h.ent wb_ent
  have h : St W0 (cells b1 [.pointer (some ⟨p, 0, none⟩)] T_p_order_web :: cells b3 [.slice (some ⟨g, o, none⟩) n c] T_s_s_int :: cells b4 [.int .i64 (i : Int)] T_int :: LI (some ⟨g, o, none⟩) c (vs.set i (rows[i].l ++ [(j : Int)])) :: wb p sl :: L) W7 := St.wk h
  exact h.ent (ent.pack [_, _, _, _] _)
end
def onRow (sl : List Ins) (x : Ins) : List Int := (depsL x).filterMap fun d => (plcO sl d).map fun k : Nat => (k : Int)
def onL (sl : List Ins) : List (List Int) := sl.map (onRow sl)
theorem each_on {sl : List Ins} {i : Nat} : ∀ (ds : List Dot) (vs : List (List Int)), i < vs.length → eachF (fun _ _ => true) (onStep sl i) ds vs = (true, vs.set i (vs.getD i [] ++ ds.filterMap fun d => (plcO sl d).map fun k : Nat => (k : Int)))
 | [], vs, hi => by
  have : vs.getD i [] = vs[i] := by rw [List.getD_eq_getElem?_getD, List.getElem?_eq_getElem hi]; rfl
  simp only [eachF, List.filterMap_nil, List.append_nil, this, List.set_getElem_self]
 | d :: ds, vs, hi => by
  simp only [eachF, if_true]
  cases hp : plcO sl d with
  | none =>
   rw [show onStep sl i vs d = vs by unfold onStep; rw [hp]]
   rw [each_on ds vs hi, List.filterMap_cons, hp]; rfl
  | some j =>
   rw [show onStep sl i vs d = vs.set i (vs.getD i [] ++ [(j : Int)]) by unfold onStep; rw [hp]]
   rw [each_on ds _ (by simpa using hi), List.filterMap_cons, hp]
   have : (vs.set i (vs.getD i [] ++ [(j : Int)])).getD i [] = vs.getD i [] ++ [(j : Int)] := by rw [List.getD_eq_getElem?_getD, List.getElem?_set_self hi]; rfl
   rw [this, List.set_set]
   simp
end Go.Proofs.YtfhacbhgmnhmlaaGreat
namespace Go.Proofs.YtfhacbhgmnhmlaaGreat
set_option linter.unusedVariables false
set_option linter.unusedSimpArgs false
open Go Go.Eng
theorem many_none {L : List Asn} : ∀ n : Nat, ent L (many ich (List.replicate n (⟨none, 0, []⟩ : ISl)) :: L)
 | 0 => many_nil (F := ich)
 | n + 1 => (many_none n).trans ((arr_nil I64 T_int).trans (many_uncons (F := ich) ⟨none, 0, []⟩ _))
def onT (sl : List Ins) (i : Nat) : List (List Int) := (onL sl).take i ++ List.replicate (sl.length - i) []
theorem onT_len (sl : List Ins) {i : Nat} (h : i ≤ sl.length) : (onT sl i).length = sl.length := by simp [onT, onL]; omega
theorem onT_at (sl : List Ins) {i : Nat} (h : i < sl.length) : (onT sl i).getD i [] = [] := by
 have hl : ((onL sl).take i).length = i := by simp [onL]; omega
 unfold onT
 rw [List.getD_eq_getElem?_getD, List.getElem?_append_right (by omega), hl, Nat.sub_self, List.getElem?_replicate]
 split <;> rfl
theorem onT_next (sl : List Ins) {i : Nat} (h : i < sl.length) : (onT sl i).set i (onRow sl sl[i]) = onT sl (i + 1) := by
 have hl : ((onL sl).take i).length = i := by simp [onL]; omega
 unfold onT
 rw [List.set_append, if_neg (by omega), hl, Nat.sub_self, show sl.length - i = (sl.length - (i + 1)) + 1 by omega, List.replicate_succ, List.set_cons_zero,
  List.take_succ_eq_append_getElem (show i < (onL sl).length by simp [onL]; exact h), List.append_assoc]
 congr 1
 simp [onL]
section
variable {W0 W : World} {L L' : List Asn}
set_option maxRecDepth 100000 in
set_option maxHeartbeats 4000000 in
theorem ordOn {p : Nat} {sl : List Ins} {k : Value → World → Prop} (h : St W0 (wb p sl :: L) W) (hl : sl.length ≤ 1000) (hd : ∀ x ∈ sl, depsO x = true)
  (hk : ∀ a c W', St W0 (LI a c (onL sl) :: wb p sl :: L) W' → k (.slice a (onL sl).length c) W') : callK PR F_order_web_on [.pointer (some ⟨p, 0, none⟩)] k W := by
 apply S.order_web_on.call
 delta S.order_web_on.body oK oA rD lD eF eU sT cL vC gD gX gP gA gR gL gE gU gC gV hL sB nI
 refine bx h fun b1 W1 h => ?_
 have h : St W0 (cells b1 [.pointer (some ⟨p, 0, none⟩)] T_p_order_web :: wb p sl :: L) W1 := h
 obtain ⟨wa, wc, wr, h⟩ := wb_at (St.perm h (List.Perm.swap _ _ _))
 (repeat (first | ((with_reducible refine v5 ?_); refine ⟨_, rfl, ?_⟩) | simp -implicitDefEqProofs only [SE, SU, SV]))
 refine mkS (A := ISY) (⟨none, 0, []⟩ : ISl) sl.length (by assumption) rfl rfl (by omega) (by omega) fun a c W2 h => ?_
 have hrl : (List.replicate sl.length (⟨none, 0, []⟩ : ISl)).length = sl.length := List.length_replicate
 rw [hrl]
 (repeat (first | ((with_reducible refine w11 ?_); intros) | ((with_reducible refine v12 ?_ ?_); exact rfl; intros) | ((with_reducible refine w12 ?_ ?_ ?_ ?_); simp; simp; simp [oneC]; intros)))
 rename_i b3 _ _ W3 h
 (try simp only [BLS, SB, stL_a, stL_b, stL_c, lsub_a, lsub_b, lsub_c, List.append_nil, List.take_nil, List.drop_nil, Nat.reduceAdd] at h)
 refine joinK_i ?_
 (repeat (first | ((with_reducible refine v5 ?_); refine ⟨_, rfl, ?_⟩) | simp -implicitDefEqProofs only [SE, SU, SV]))
 have h : St W0 (LI a c (onT sl 0) :: cells b3 [.slice a sl.length c] T_s_s_int :: cells b1 [.pointer (some ⟨p, 0, none⟩)] T_p_order_web :: wb p sl :: L) W3 := by
  have h5 : St W0 (cells p [.slice wa sl.length wc, .map (some wr)] T_order_web :: arr INS T_order_Inst wa wc sl :: mp KD wr (plL sl) :: arr ISY T_s_int a c (List.replicate sl.length ⟨none, 0, []⟩) :: cells b3 [.slice a sl.length c] T_s_s_int :: cells b1 [.pointer (some ⟨p, 0, none⟩)] T_p_order_web :: L) W3 := St.wk h
  have h6 := h5.ent wb_ent
  have h7 : St W0 (arr ISY T_s_int a c (List.replicate sl.length ⟨none, 0, []⟩) :: cells b3 [.slice a sl.length c] T_s_s_int :: cells b1 [.pointer (some ⟨p, 0, none⟩)] T_p_order_web :: wb p sl :: L) W3 := St.wk h6
  refine (h7.ent (ent.cons _ (many_none sl.length))).ent (li_ent ?_)
  simp [onT]
 refine loop_c (σ := Unit) sl.length (fun i _ => [.pointer (some ⟨b1, 0, none⟩), .pointer (some ⟨b3, 0, none⟩), .int .i64 sl.length, .int .i64 i])
  (fun i _ W1 => St W0 (LI a c (onT sl i) :: cells b3 [.slice a sl.length c] T_s_s_int :: cells b1 [.pointer (some ⟨p, 0, none⟩)] T_p_order_web :: wb p sl :: L) W1) () rfl h ?_
 clear h
 rintro K i _ W4 hi h hK
 simp -implicitDefEqProofs only [SE, SU, SV]
 delta S.order_web_on.l1 oK oA rD lD eF eU sT cL vC gD gX gP gA gR gL gE gU gC gV hL sB nI
 by_cases hlt : (i : Int) < (sl.length : Int)
 ·have hib : i < sl.length := by omega
  have ew : IntKind.i64.wrap ((i : Int) + 1) = ((i + 1 : Nat) : Int) := by rw [i64w]; omega
  (repeat (first | ((with_reducible refine w11 ?_); intros) | ((with_reducible refine v5 ?_); refine ⟨_, rfl, ?_⟩) | ((with_reducible refine v12 ?_ ?_); exact rfl; intros) | ((with_reducible refine w5 ?_ ?_); simp; refine ⟨_, rfl, ?_⟩) | ((with_reducible refine w12 ?_ ?_ ?_ ?_); simp; simp; simp [oneC]; intros) | simp -implicitDefEqProofs only [SE, SU, SV, hlt]))
  rename_i b4 _ _ W5 h
  (try simp only [BLS, SB, stL_a, stL_b, stL_c, lsub_a, lsub_b, lsub_c, List.append_nil, List.take_nil, List.drop_nil, Nat.reduceAdd] at h)
  have h : St W0 (onC p b1 b3 b4 sl.length i a c (onT sl i) :: wb p sl :: L) W5 := by
   have h5 : St W0 (cells b1 [.pointer (some ⟨p, 0, none⟩)] T_p_order_web :: cells b3 [.slice a sl.length c] T_s_s_int :: cells b4 [.int .i64 (i : Int)] T_int :: LI a c (onT sl i) :: wb p sl :: L) W5 := St.wk h
   exact h5.ent (ent.pack [_, _, _, _] _)
  refine ordEach (C := onC p b1 b3 b4 sl.length i a c) (q := fun _ _ => true) (t := onStep sl i) (I := fun m vs => vs.length = sl.length ∧ (vs.getD i []).length ≤ m) (s := onT sl i) ?_ ⟨onT_len sl hi, by rw [onT_at sl hib]; simp⟩ ?_ h hib (hd _ (List.getElem_mem hib)) fun W6 h => ?_
  ·rintro m vs d ⟨h1, h2⟩
   unfold onStep
   cases plcO sl d with
   | none => exact ⟨h1, Nat.le_succ_of_le h2⟩
   | some j =>
    refine ⟨by simp [h1], ?_⟩
    have e : (vs.set i (vs.getD i [] ++ [(j : Int)])).getD i [] = vs.getD i [] ++ [(j : Int)] := by rw [List.getD_eq_getElem?_getD, List.getElem?_set_self (by omega)]; rfl
    show ((vs.set i (vs.getD i [] ++ [(j : Int)])).getD i []).length ≤ m + 1
    rw [e, List.length_append, List.length_singleton]
    omega
  ·rintro m vs d W k hm _ ⟨h1, h2⟩ h hk
   refine ⟨CBok _ (by kernel_rfl), ?_⟩
   exact ordOn1 (d := d) h1 hib (by omega) h hk
  ·have hts := onT_next sl hib
   rw [each_on _ _ (by rw [onT_len sl hi]; exact hib), onT_at sl hib, List.nil_append] at h
   rw [show ((depsL sl[i]).filterMap fun d => (plcO sl d).map fun k : Nat => (k : Int)) = onRow sl sl[i] from rfl, hts] at h
   have h := h.flat
   (repeat simp -implicitDefEqProofs only [SE, SU, SV, ew])
   have h9 : St W0 (cells b1 [.pointer (some ⟨p, 0, none⟩)] T_p_order_web :: cells b3 [.slice a sl.length c] T_s_s_int :: cells b4 [.int .i64 (i : Int)] T_int :: LI a c (onT sl (i + 1)) :: wb p sl :: L) W6 := h
   exact hK () _ hib (St.wk h9)
 ·have hil : i = sl.length := by omega
  subst hil
  (repeat simp -implicitDefEqProofs only [SE, SU, SV, hlt])
  delta S.order_web_on.j1 oK oA rD lD eF eU sT cL vC gD gX gP gA gR gL gE gU gC gV hL sB nI
  have e : onT sl sl.length = onL sl := by unfold onT; rw [List.take_of_length_le (by simp [onL])]; simp
  have e2 : sl.length = (onL sl).length := by simp [onL]
  rw [e] at h
  (repeat ((with_reducible refine v5 ?_); refine ⟨_, rfl, ?_⟩))
  have h8 : St W0 (LI a c (onL sl) :: wb p sl :: L) W4 := St.wk h
  have := hk a c W4 h8
  rwa [← e2] at this
end
end Go.Proofs.YtfhacbhgmnhmlaaGreat
namespace Go.Eng
set_option linter.unusedVariables false
set_option linter.unusedSimpArgs false
open Go Go.RowKit Go.Sort Go.Proofs
section
variable {P : Program} {ρ ρ' : Go.Shelf.Ren} {W0 W W' : World} {L L' : List Asn} {e : TypeId}
theorem sortsI (L5 : SlLaysM.n5 P ρ') (e : ρ.f 9 = ρ'.f 5) (m : Nat) : AnyZI.SortsIn P ρ Fence.wide m := by
  refine ⟨fun blk off cap ss W hH hblk hsz => ?_, fun p cap W => ?_⟩ <;> rw [e]
  · exact callsIn_wide.2 (AnyM.slices_Sort_int L5 blk off cap ss W hH hblk hsz)
  · exact callsIn_wide.2 (AnyM.slices_Sort_int_none L5 p cap W)
/-- over a base that counts no draws, a world may forget its own -/
theorem St.lax (h : St W0 L W) (h0 : W0.drawn = 0) : St W0 L { W with drawn := 0 } :=
  ⟨⟨⟨h.bel.os, h.bel.tape, h.bel.output, h.bel.size, h.bel.block⟩, by rw [h0]; exact Nat.zero_le _⟩, h.own⟩
theorem St.fresh (h : St W0 L W) (h0 : W0.drawn = 0) (hb : Below W.heap.size W W') {g : Nat} {o : Obj} (hg : W.heap.size ≤ g) (ho : W'.heap[g]? = some o) : St W0 (Eng.blk g o :: L) W' := by
  have h' : St { W with drawn := 0 } [Eng.blk g o] W' := by
   refine ⟨⟨⟨hb.os, hb.tape, hb.output, hb.size, hb.block⟩, Nat.zero_le _⟩, fun x => if x = g then some o else none, ⟨fun x => if x = g then some o else none, fun _ => none, fun x => .inr rfl, ?_, ⟨?_, ?_⟩, fun _ => rfl⟩, ?_⟩
   · funext x; simp [PH.join]
   · simp
   · intro x hx; simp [hx]
   · intro b o' hb
     by_cases hbe : b = g
     · subst hbe
       simp only [if_true, Option.some.injEq] at hb
       subst hb
       exact ⟨hg, ho⟩
     · simp only [hbe, if_false] at hb
       cases hb
  exact (h.lax h0).over h'
theorem St.stay (h : St W0 L W) (h0 : W0.drawn = 0) (hb : Below W.heap.size W W') : St W0 L W' := by
  have h2 : St { W with drawn := 0 } [] W' := ⟨⟨⟨hb.os, hb.tape, hb.output, hb.size, hb.block⟩, Nat.zero_le _⟩, fun _ => none, fun _ => rfl, fun b o h => by cases h⟩
  exact (h.lax h0).over h2
theorem St.ownRow (h : St W0 L W) (h0 : W0.drawn = 0) (hb : Below W.heap.size W W') {v : Value} {l : List Int} (hr : W'.ownsRow W.heap.size e 1 v l.length (l.map encZ)) : ∃ a c, v = .slice a l.length c ∧ St W0 (arr I64 e a c l :: L) W' := by
  rcases hr.2 with ⟨rfl, hz⟩ | ⟨g, cap, cur, rfl, hbase, hg, h1, h2, h3, h4⟩
  · have : l = [] := List.eq_nil_of_length_eq_zero hz
    subst this
    exact ⟨none, 0, rfl, (h.stay h0 hb).ent (arr_nil I64 e)⟩
  · refine ⟨_, _, rfl, ?_⟩
    have hrows : ∀ l : List Int, I64.rows l = l.map encZ := fun l => by
      induction l with
      | nil => rfl
      | cons a l ih => rw [Ly.rows_cons, ih]; rfl
    have h5 : St W0 (Eng.cells g cur.toList e :: L) W' := (h.fresh h0 hb hbase hg).weak fun p hp => ⟨(0, 0), free_zero _, by simpa using hp⟩
    refine h5.ent (arr_of_cells h1 h2 ?_ ?_)
    · rw [show I64.sz = 1 from rfl]; simp [h3]
    · rw [show I64.sz = 1 from rfl, List.drop_zero, hrows]; exact h4
end
end Go.Eng
namespace Go.Proofs.YtfhacbhgmnhmlaaGreat
set_option linter.unusedVariables false
set_option linter.unusedSimpArgs false
open Go Go.RowKit Go.Shelf Go.Proofs
attribute [local go_sem] Oper.semAt_some
def upTo {α : Type} (f : Nat → α) (k : Nat) : List α := (List.range k).map f
theorem upTo_succ {α : Type} (f : Nat → α) (k : Nat) : upTo f (k + 1) = upTo f k ++ [f k] := by simp [upTo, List.range_succ]
theorem upTo_length {α : Type} (f : Nat → α) (k : Nat) : (upTo f k).length = k := by simp [upTo]
theorem upTo_all (zs : List Int) : upTo (fun j => zs[j]?.getD 0) zs.length = zs := by
 apply List.ext_getElem
 ·simp [upTo]
 ·intro i h1 h2
  simp [upTo, h2]
set_option maxRecDepth 100000 in
set_option maxHeartbeats 2000000 in
theorem values1_in (F : Fence) (n : Nat) (h7 : F.fn 149) (hro : F.round = none) (hn : 1 ≤ n) (l Bs n₀ b off len cap : Nat) (zs : List Int) (hreach : len * 8 ≤ 140737488351232) (hb : b < n₀) (J : List Int → World → Prop)
  (w : World) (hJB : ∀ pre W1, J pre W1 → Below n₀ w W1)
  (hY : ∀ pre x W, J pre W → pre.length < len → YieldAt F (n - 1) Tryz.prog l #[.int .i64 x] W fun e W' => e = .returned (.bool true) ∧ J (pre ++ [x]) W' ∧ KeepsWalks W W')
  (W : World) (hBs : W.cell? ⟨Bs, 0, none⟩ = some (.slice (some ⟨b, off, none⟩) len cap)) (hc : ∀ j, j < len → w.cell? ⟨b, off + j, none⟩ = some (.int .i64 (zs[j]?.getD 0))) (h0 : J [] W) :
  CallsIn F n Tryz.prog 149 #[.func (.yield l) #[] #[], .pointer (some ⟨Bs, 0, none⟩)] W fun e W' => (∃ v, e = .returned v) ∧ J (upTo (fun j => zs[j]?.getD 0) len) W' := by
 refine callsIn_of_wp Tryz.func149 rfl h7 ?_ hro
 simp only [Tryz.ntmps149, List.size_toArray, List.length_cons, List.length_nil, Nat.reduceAdd, Nat.reduceSub, Array.replicate_succ, Array.replicate_zero, List.push_toArray, List.append_toArray, List.nil_append, List.cons_append]
 gi_wp2
 gi_loopw [7] (fun i wr => ∃ k : Nat, k ≤ len ∧ i = .int .i64 k ∧ J (upTo (fun j => zs[j]?.getD 0) k) wr)
  (fun i _ => len - (intOf i).toNat)
 case atStart => exact ⟨0, Nat.zero_le _, rfl, h0⟩
 case round =>
  obtain ⟨k, hk, rfl, hJs⟩ := hrel
  have hnx := hJB _ _ hJs
  have hcx : k < len → wr.cell? ⟨b, off + k, none⟩ = some (.int .i64 (zs[k]?.getD 0)) := fun h => (hnx.cell (p := ⟨b, off + k, none⟩) hb).trans (hc k h)
  by_cases hlt : k < len
  ·obtain ⟨fn, tmps, assign, body, hy, hR⟩ := hY _ (zs[k]?.getD 0) wr hJs (by rw [upTo_length]; exact hlt)
   have hcx' := hcx hlt
   gi_wp2
   refine hR.mono ?_
   rintro e W3 ⟨rfl, hJ3, hk3⟩
   gi_wp2
   go_roundw
   case rel => exact ⟨k + 1, by omega, by simp, by rw [upTo_succ]; exact hJ3⟩
   case measure => simp [intOf]; omega
  ·obtain rfl : k = len := by omega
   gi_wp2
   go_end0
   exact ⟨⟨_, rfl⟩, hJs⟩
end Go.Proofs.YtfhacbhgmnhmlaaGreat
namespace Go.Proofs.YtfhacbhgmnhmlaaGreat
set_option linter.unusedVariables false
set_option linter.unusedSimpArgs false
open Go Go.RowKit Go.Shelf Go.Proofs Go.Sort Go.Eng Go.Maps
section
variable {P : Program} {ρ : Ren}
def SeqB (F : Fence) (n : Nat) (P : Program) (g : Nat) (lb : Array Value) (S : List Int → Prop) (N : Nat) (w : World) : Prop :=
 ∀ (l : Nat) (J : List Int → World → Prop) (W : World), (∀ pre W1, J pre W1 → Below w.heap.size w W1) →
  (∀ pre x W1, J pre W1 → pre.length < N → YieldAt F (n - 1) P l #[encZ x] W1 fun e W' => e = .returned (.bool true) ∧ J (pre ++ [x]) W' ∧ KeepsWalks W1 W') →
  J [] W → CallsIn F n P g (#[.func (.yield l) #[] #[]] ++ lb) W fun e W' => (∃ v, e = .returned v) ∧ ∃ xs, S xs ∧ J xs W'
set_option maxRecDepth 100000 in
set_option maxHeartbeats 2000000 in
theorem appendB_in (L : SlLaysZI.n11 P ρ) (n : Nat) (hn : 2 ≤ n) (g : Nat) (lb : Array Value) (eg : ∀ args w, (callFunc g args).run P w = .ok (.enter g args) w)
  (S : List Int → Prop) (N : Nat) (hN : N ≤ maxLen) (hNb : N * 8 ≤ 140737488355328) (w : World) (hseq : SeqB Fence.wide (n - 1) P g lb S N w) :
  CallsIn Fence.wide n P (ρ.f 11) #[.slice none 0 0, .func (.func g) #[] lb] w fun e w' => ∃ (v : Value) (ss : List Int), e = .returned v ∧ S ss ∧ w'.ownsRow w.heap.size (ρ.t 26) 1 v ss.length (ss.map encZ) ∧ (v = .slice none 0 0 ↔ ss = []) ∧ Below w.heap.size w w' := by
 have mixed := L.mixed; have t24 := L.t24; have a24 := L.a24; have z24 := L.z24; have v24 := L.v24; have t0 := L.t0; have a0 := L.a0; have z0 := L.z0; have v0 := L.v0; have t26 := L.t26; have a26 := L.a26; have z26 := L.z26; have v26 := L.v26; have t28 := L.t28; have a28 := L.a28; have z28 := L.z28; have v28 := L.v28
 have hne : ρ.t 24 ≠ ρ.t 26 := fun e => by have h := L.t24; rw [e, L.t26] at h; cases h
 have u0 := run_underlying L.t0; have u24 := run_underlying L.t24; have u26 := run_underlying L.t26; have u28 := run_underlying L.t28
 obtain ⟨_, _, FG⟩ := L.f11
 refine callsIn_of_wp_marks FG rfl trivial ?_ rfl
 simp only [SlBodyZ.n11_ntmps ρ, List.size_toArray, List.length_cons, List.length_nil, Nat.reduceAdd, Nat.reduceSub, Array.replicate_succ, Array.replicate_zero, List.push_toArray, List.append_toArray, List.nil_append, List.cons_append]
 gi_wp2
 refine wpIn_rangeFunc ?_
 intro fn hfn
 rw [show Fence.wide.round = none from rfl]
 generalize hA : w.alloc (.cells #[.slice none 0 0] (ρ.t 24)) = A
 have sA : A.heap.size = w.heap.size + 1 := by rw [← hA]; simp
 have bA : Below w.heap.size w A := by rw [← hA]; exact (Below.refl _ w).alloc (Nat.le_refl _) _
 have vA : A.heap[w.heap.size]? = some (.cells #[.slice none 0 0] (ρ.t 24) (0, 0)) := by rw [← hA]; exact World.alloc_heap_new w _
 generalize hB : (A.alloc (.deferred (some []))).alloc (.loop (AnyZI.apRec ρ fn (.func (.func g) #[] lb) w.heap.size A.heap.size .ready none)) = B
 have kB : ∀ k, k < A.heap.size → B.heap[k]? = A.heap[k]? := fun k hk => by
  rw [← hB]; exact (Below.heap_alloc _ _ k (by simp; omega)).trans (Below.heap_alloc _ _ k hk)
 have bB : Below w.heap.size w B := by rw [← hB]; exact (bA.alloc bA.size _).alloc (by have := bA.size; simp; omega) _
 have lB : B.heap[A.heap.size + 1]? = some (.loop (AnyZI.apRec ρ fn (.func (.func g) #[] lb) w.heap.size A.heap.size .ready none)) := by
  rw [← hB]
  have := World.alloc_heap_new (A.alloc (.deferred (some []))) (.loop (AnyZI.apRec ρ fn (.func (.func g) #[] lb) w.heap.size A.heap.size .ready none))
  rwa [World.size_alloc] at this
 have dB : B.heap[A.heap.size]? = some (.deferred (some [])) := by rw [← hB]; exact (Below.heap_alloc _ _ _ (by simp)).trans (World.alloc_heap_new A _)
 have start : AnyZI.ApAt ρ w fn (.func (.func g) #[] lb) w.heap.size (A.heap.size + 1) A.heap.size [] B :=
  ⟨⟨_, (kB _ (by omega)).trans vA, ⟨rfl, .inl ⟨rfl, rfl⟩⟩, by simp⟩, lB, dB, bB⟩
 refine ⟨A.heap.size + 1, [{ target := .collected A.heap.size, args := #[] }], B, { target := .fn (.func g) lb, args := #[.func (.yield (A.heap.size + 1)) #[] #[]] }, B, g,
  #[.func (.yield (A.heap.size + 1)) #[] #[]] ++ lb, B, ?_, ?_, ?_, ?_, fun _ => by omega, ?_⟩
 ·rw [← hB]; exact run_enterLoop_outer _ _ _ _ _
 ·simp [resolve, go_sem]
 ·intro f' hf'; trivial
 ·simp [invoke, go_sem, eg]
 ·refine (hseq (A.heap.size + 1) (AnyZI.ApAt ρ w fn (.func (.func g) #[] lb) w.heap.size (A.heap.size + 1) A.heap.size) B (fun pre W h => h.below)
   (fun pre x W hJ hl => AnyZI.apYield { L with } Fence.wide (n - 1 - 1) w fn hfn _ w.heap.size (A.heap.size + 1) A.heap.size (by omega) (by omega) (by omega) (Nat.le_refl _) (by omega) N hN hNb pre x W hJ hl) start).mono ?_
  rintro e C ⟨⟨r, rfl⟩, ss, hS, hC⟩
  obtain ⟨v, hv, hrow, hnil⟩ := hC.box
  have hend := run_endLoop (P := P) hC.L (by simp [AnyZI.apRec])
  generalize hE : C.putObj (A.heap.size + 1) (.loop { AnyZI.apRec ρ fn (.func (.func g) #[] lb) w.heap.size A.heap.size .ready none with state := .exhausted }) = E at hend
  have gE : C.grownBy E (some (A.heap.size + 1)) := by rw [← hE]; exact grownBy_putObj_a _ _ _
  have vE : E.heap[w.heap.size]? = some (.cells #[v] (ρ.t 24) (0, 0)) := by rw [← hE]; exact (World.putObj_heap_other (by omega)).trans hv
  have dE : E.heap[A.heap.size]? = some (.deferred (some [])) := by rw [← hE]; exact (World.putObj_heap_other (by omega)).trans hC.K
  have rE := hrow.kept gE (ownsRow_ne_a hrow hC.L (fun cur e => by first | cases e | exact hne (Obj.cells.inj e).2.1))
  have bE : Below w.heap.size w E := hC.below.grown gE hC.below.size (fun k e => by cases e; omega)
  obtain ⟨cE, fE⟩ := cell_of_box_a vE
  clear hE
  refine ⟨none, E, hend, ?_⟩
  gi_wp2
  rw [← sA]
  refine ⟨by simp, .inl ⟨_, _, rfl, run_takeDeferred dE, ?_⟩⟩
  exact ⟨_, results_tmp rfl _ _ _, v, ss, rfl, hS, rE.kept (grownBy_putObj_a _ _ _) (ownsRow_ne_a rE dE (fun cur e => by first | cases e | exact hne (Obj.cells.inj e).2.1)), hnil, bE.grown (grownBy_putObj_a _ _ _) bE.size (fun k e => by cases e; omega)⟩
set_option maxHeartbeats 1000000 in
theorem collectB_in (L : SlLaysZI.n8 P ρ) (n : Nat) (hn : 3 ≤ n) (g : Nat) (lb : Array Value) (eg : ∀ args w, (callFunc g args).run P w = .ok (.enter g args) w)
  (S : List Int → Prop) (N : Nat) (hN : N ≤ maxLen) (hNb : N * 8 ≤ 140737488355328) (w : World) (hseq : SeqB Fence.wide (n - 1 - 1) P g lb S N w) :
  CallsIn Fence.wide n P (ρ.f 8) #[.func (.func g) #[] lb] w fun e w' => ∃ (v : Value) (ss : List Int), e = .returned v ∧ S ss ∧ w'.ownsRow w.heap.size (ρ.t 26) 1 v ss.length (ss.map encZ) ∧ (v = .slice none 0 0 ↔ ss = []) ∧ Below w.heap.size w w' := by
 have h1 : 1 ≤ n := by omega
 have e11 : ∀ args w, (callFunc (ρ.f 11) args).run P w = .ok (.enter (ρ.f 11) args) w := L.f11.enters rfl
 have hF11 : Fence.wide.fn (ρ.f 11) := trivial
 obtain ⟨_, _, FG⟩ := L.f8
 refine callsIn_of_wp FG rfl trivial ?_ rfl
 simp only [SlBodyZ.n8_ntmps ρ, List.size_toArray, List.length_cons, List.length_nil, Nat.reduceAdd, Nat.reduceSub, Array.replicate_succ, Array.replicate_zero, List.push_toArray, List.append_toArray, List.nil_append, List.cons_append]
 gi_wp2_with (gi_at_fn (ρ.f 11); refine (appendB_in { L with } (n - 1) (by omega) g lb eg S N hN hNb _ hseq).mono ?_; rintro e w' ⟨v, ss, rfl, hS, hrow, hnil, hb⟩)
 go_ret
 exact ⟨v, ss, rfl, hS, hrow, hnil, hb⟩
set_option maxRecDepth 100000 in
set_option maxHeartbeats 2000000 in
theorem sortedB_in (L : SlLaysZI.n6 P ρ) (n : Nat) (hn : 4 ≤ n) (hsort : AnyZI.SortsIn P ρ Fence.wide (n - 1)) (e9 : ∀ args w, (callFunc (ρ.f 9) args).run P w = .ok (.enter (ρ.f 9) args) w) (g : Nat) (lb : Array Value) (eg : ∀ args w, (callFunc g args).run P w = .ok (.enter g args) w)
  (S : List Int → Prop) (N : Nat) (hN : N ≤ maxLen) (hNb : N * 8 ≤ 140737488355328) (w : World) (hseq : SeqB Fence.wide (n - 1 - 1 - 1) P g lb S N w) (hSN : ∀ ss, S ss → ss.length ≤ N) :
  CallsIn Fence.wide n P (ρ.f 6) #[.func (.func g) #[] lb] w fun e w' => ∃ (v : Value) (ss : List Int), e = .returned v ∧ S ss ∧
   w'.ownsRow w.heap.size (ρ.t 26) 1 v ss.length ((ss.mergeSort (fun x y => decide (x ≤ y))).map encZ) ∧ Below w.heap.size w w' := by
 have h1 : 1 ≤ n := by omega
 have hF8 : Fence.wide.fn (ρ.f 8) := trivial
 have hF9 : Fence.wide.fn (ρ.f 9) := trivial
 have e8 : ∀ args w, (callFunc (ρ.f 8) args).run P w = .ok (.enter (ρ.f 8) args) w := L.f8.enters rfl
 obtain ⟨_, _, FG⟩ := L.f6
 refine callsIn_of_wp FG rfl trivial ?_ rfl
 simp only [SlBodyZ.n6_ntmps ρ, List.size_toArray, List.length_cons, List.length_nil, Nat.reduceAdd, Nat.reduceSub, Array.replicate_succ, Array.replicate_zero, List.push_toArray, List.append_toArray, List.nil_append, List.cons_append]
 gi_wp2_with (gi_at_fn (ρ.f 8); refine (collectB_in { L with } (n - 1) (by omega) g lb eg S N hN hNb _ hseq).mono ?_; rintro e W ⟨v, ss, rfl, hS, hrow, hnil, hb⟩)
 have hlen := hSN ss hS
 rcases hrow.2 with ⟨rfl, hz⟩ | ⟨gb, cap, cur, rfl, hbase, hgb, r1, r2, r3, r4⟩
 ·have hss : ss = [] := List.eq_nil_of_length_eq_zero hz
  subst hss
  gi_wp2_with (gi_at_fn (ρ.f 9); refine (hsort.2 none 0 W).mono ?_; rintro e w' ⟨rfl, rfl⟩)
  go_ret
  exact ⟨.slice none 0 0, [], rfl, hS, by simpa using hrow, hb⟩
 ·have hH : Holds encZ W gb 0 ss.toArray := holds_of_block_i hgb (by simpa using r4)
  have cS := hsort.1 gb 0 cap ss W hH (Array.getElem?_eq_some_iff.1 hgb).1 (by omega)
  gi_wp2_with (gi_at_fn (ρ.f 9); refine cS.mono ?_; rintro e w' ⟨rfl, nn, os, rfl⟩)
  go_ret
  exact ⟨_, ss, rfl, hS, ownsRow_sorted_i (by simp) hbase hgb r1 r2 r3, hb.grown (grownBy_sorted_i _) hb.size (fun j hj => by cases hj; exact hbase)⟩
end
theorem valuesB (n : Nat) (hn : 1 ≤ n) {Bs b off cap : Nat} {zs : List Int} {w : World} (hreach : zs.length * 8 ≤ 140737488351232) (hb : b < w.heap.size) (hBl : Bs < w.heap.size)
  (hBs : w.cell? ⟨Bs, 0, none⟩ = some (.slice (some ⟨b, off, none⟩) zs.length cap)) (hc : ∀ j, j < zs.length → w.cell? ⟨b, off + j, none⟩ = some (.int .i64 (zs[j]?.getD 0))) :
  SeqB Fence.wide n Tryz.prog 149 #[.pointer (some ⟨Bs, 0, none⟩)] (fun ys => ys = zs) zs.length w := fun l J W hJ hY h0 => by
 have hW := hJ [] W h0
 refine (values1_in Fence.wide n trivial rfl hn l Bs w.heap.size b off zs.length cap zs hreach hb J w hJ hY W ((hW.cell (p := ⟨Bs, 0, none⟩) hBl).trans hBs) hc h0).mono ?_
 rintro e W' ⟨h1, h2⟩
 exact ⟨h1, _, upTo_all zs, h2⟩
section
variable {W0 W : World} {L : List Asn}
theorem rowsI : ∀ l : List Int, I64.rows l = l.map (Value.int .i64)
 | [] => rfl
 | a :: l => by rw [Ly.rows_cons, rowsI l]; rfl
theorem sortedVals {a : Option Addr} {c : Nat} {zs : List Int} {k : Value → World → Prop} (h : St W0 L W) (h0 : W0.drawn = 0) [hr : Rd W0 L a I64 zs] (hz : zs ≠ []) (hl : zs.length < 1000000)
  (hk : ∀ a' c' W', St W0 (arr I64 T_int a' c' (zs.mergeSort fun x y => decide (x ≤ y)) :: L) W' → k (.slice a' (zs.mergeSort fun x y => decide (x ≤ y)).length c') W') :
  callK PR F_slices_Values_int_int [.slice a zs.length c] (fun v W => callK PR F_slices_Sorted_int [v] k W) W := by
 apply S.slices_Values_int_int.call
 delta S.slices_Values_int_int.body oK oA rD lD eF eU sT cL vC gD gX gP gA gR gL gE gU gC gV hL sB nI
 refine bx h fun b W1 h => ?_
 have h : St W0 (cells b [.slice a zs.length c] T_s_int :: L) W1 := h
 obtain ⟨g, o, rfl, hro⟩ := Rd.at (A := I64) (l := zs) (a := a) h hz
 have hbox : W1.cell? ⟨b, 0, none⟩ = some (.slice (some ⟨g, o, none⟩) zs.length c) := (St.cellOf (b := b) h 0 (by simp)).1
 have hrl : (I64.rows zs).length = zs.length := by rw [Ly.rows_len, show I64.sz = 1 from rfl, Nat.mul_one]
 have hrows := rowsI zs
 have hcell : ∀ j, j < zs.length → W1.cell? ⟨g, o + j, none⟩ = some (.int .i64 (zs[j]?.getD 0)) := fun j hj => by
  rw [hro j (by rw [hrl]; exact hj), hrows, List.getElem?_map, List.getElem?_eq_getElem hj]; rfl
 have lt_of : ∀ {p : Addr} {v : Value}, W1.cell? p = some v → p.block < W1.heap.size := fun {p v} e => by
  refine Classical.byContradiction fun hn => ?_
  have : W1.heap[p.block]? = none := Array.getElem?_eq_none (by omega)
  simp [World.cell?, this] at e
 have hpos : 0 < zs.length := List.length_pos_iff.2 hz
 have hg : g < W1.heap.size := lt_of (hcell 0 hpos)
 have hb : b < W1.heap.size := lt_of hbox
 have cS := sortedB_in laySorted 5 (by omega) (sortsI (ρ' := laySortI_ren) laySortI rfl _) (fun args w => callFunc_ok (CBok _ (by kernel_rfl)) w) F_slices_Values_int_int_1 #[.pointer (some ⟨b, 0, none⟩)] (fun args w => callFunc_ok (CBok _ (by kernel_rfl)) w)
  (fun ys => ys = zs) zs.length (by simp only [maxLen]; omega) (by omega) W1 (valuesB 2 (by omega) (by omega) hg hb hbox hcell) (fun ss e => by rw [e]; exact Nat.le_refl _)
 refine Calls.mono (callsIn_wide.1 cS) ?_
 rintro ed w' ⟨v, ss, rfl, rfl, hrow, hbl⟩
 have hml : ss.length = (ss.mergeSort fun x y => decide (x ≤ y)).length := (List.length_mergeSort _).symm
 rw [hml] at hrow
 obtain ⟨a', c', rfl, h2⟩ := h.ownRow h0 hbl hrow
 exact hk a' c' w' (St.perm h2 (List.Perm.swap _ _ _)).drop
end
end Go.Proofs.YtfhacbhgmnhmlaaGreat
