/- The law QuotaWrong: the switch that makes a book that is not right, as a theorem of its own. -/
import Derived.Test.YtppfhcocmpmadaaC0
import Derived.Test.YtppfhcocmpmadaaPW
namespace Go.Proofs.Ytppfhcocmpmadaa
open Go.RowKit
set_option linter.unusedVariables false

def blockOf (n : Nat) : Code → Option Code
  | .seq a b => match blockOf n a with
    | some c => some c
    | none => blockOf n b
  | .block id c => if id = n then some (.block id c) else blockOf n c
  | .loop c => blockOf n c
  | .scope c => blockOf n c
  | .cond _ a b => match blockOf n a with
    | some c => some c
    | none => blockOf n b
  | _ => none
noncomputable def pieceB0 : Code := ((Try.f8.body.bind (blockOf 0)).getD .skip)
theorem qw_lim {W : World} {g j : Nat} {L U : Nat → Int} (v : Int) (hj : j < 4) (h : W.heap[g]? = some (.cells (bk L U) 27 (0, 0))) : (W.setCell ⟨g, j, none⟩ (.int .i64 v)).heap[g]? = some (.cells (bk (upd L j v) U) 27 (0, 0)) :=
  (cells_set h _).trans (by rw [bk_set_lim L U j hj])
theorem qw_use {W : World} {g j : Nat} {L U : Nat → Int} (v : Int) (hj : j < 4) (h : W.heap[g]? = some (.cells (bk L U) 27 (0, 0))) : (W.setCell ⟨g, 4 + j, none⟩ (.int .i64 v)).heap[g]? = some (.cells (bk L (upd U j v)) 27 (0, 0)) :=
  (cells_set h _).trans (by rw [bk_set_use L U j hj])

set_option maxRecDepth 1000000 in
set_option maxHeartbeats 8000000 in
theorem rB0 (n r : Int) (j : Nat) (L U : Nat → Int) (Wb W4 : World) (n0 : -9223372036854775808 ≤ n) (n1 : n ≤ 9223372036854775807) (r0 : 0 ≤ r) (r1 : r < 4) (j0 : (0 : Int) ≤ (j : Int)) (j1 : (j : Int) < 4) (HJ : Hd (j < 4)) (H_hm : Hd (MB L U))
    (HT13 : Hd (W4.heap[Wb.heap.size]? = some (.cells (bk L U) 27 (0, 0)))) (HX4 : Hd (Below Wb.heap.size Wb W4)) (Q : Exit → Act → World → Prop)
    {c0 c1 c2 c3 c5 c6 c7 c8 c9 c10 c11 c12 c15 c16 c17 c18 c19 c20 c21 c22 c23 c24 c25 c26 c27 c28 c29 c30 c31 c32 c33 c34 c35 c36 c37 c38 c39 c40 c41 c42 c43 c44 c45 c46 c47 c48 c49 c50 c51 c52 c53 c54 c55 c56 c57 c58 c59 c60 c61 c62 c64 c65 c66 c67 c68 c69 c70 c71 c72 c73 c74 c75 c76 c77 c78 c79 c80 c81 c82 c83 c84 c85 c86 c87 c88 c89 c90 c91 c92 c93 c94 c95 c96 c97 c98 c99 c100 c101 c102 c103 c104 c105 c106 c107 c108 c109 c110 c111 c112 c113 c114 c115 c116 c117 c118 c119 c120 c121 c122 c123 c124 c125 c126 c127 c128 c129 c130 c131 c132 c133 c134 c135 c136 c137 c138 c139 c140 c141 c142 c143 c144 c145 c146 c147 c148 c149 c150 c151 c152 c153 c154 c155 c156 c157 c158 c159 c160 c161 c162 c163 c164 c165 c166 c167 c168 c169 c170 c171 c172 c173 c174 c175 c176 c177 c178 c179 c180 c181 c182 c183 c184 c185 c186 c187 c188 c189 c190 c191 c192 c193 c194 c195 c196 c197 c198 c199 c200 c201 c202 c203 c204 c205 c206 c207 c208 c209 c210 c211 c212 c213 c214 c215 c216 c217 c218 c219 c220 c221 c222 c223 c224 c225 c226 c227 c228 c229 c230 c231 c232 c233 c234 c235 c236 c237 c238 c239 c240 c241 c242 c243 c244 c245 c246 c247 c248 c249 c250 c251 c252 c253 c254 c255 c256 c257 c258 c259 c260 c261 c262 c263 c264 c265 c266 c267 c268 c269 c270 c271 c272 c273 c274 c275 c276 c277 c278 c279 c280 c281 c282 c283 c284 c285 c286 c287 c288 c289 c290 c291 c292 c293 c294 c295 c296 c297 c298 c299 c300 c301 c302 c303 c304 c305 c306 c307 c308 c309 c310 c311 c312 c313 c314 c315 c316 : Value}
    (hQ : ∀ {u64 u65 u66 u67 u68 u69 u70 u71 u72 u73 u74 u75 u76 u77 u78 u79 u80 u81 u82 u83 u84 u85 u86 u87 u88 u89 u90 u91 u92 u93 u94 u95 u96 u97 : Value} (BL BU : Nat → Int) (wx : World), wx.heap[Wb.heap.size]? = some (.cells (bk BL BU) 27 (0, 0)) → rightB BL BU = false → Below Wb.heap.size Wb wx → Q .normal ⟨#[c0, c1, c2, c3, .int .i64 n, c5, c6, c7, c8, c9, c10, c11, c12, .pointer (some ⟨Wb.heap.size, 0, none⟩), .int .i64 (j : Int), c15, c16, c17, c18, c19, c20, c21, c22, c23, c24, c25, c26, c27, c28, c29, c30, c31, c32, c33, c34, c35, c36, c37, c38, c39, c40, c41, c42, c43, c44, c45, c46, c47, c48, c49, c50, c51, c52, c53, c54, c55, c56, c57, c58, c59, c60, c61, c62, .int .u8 r, u64, u65, u66, u67, u68, u69, u70, u71, u72, u73, u74, u75, u76, u77, u78, u79, u80, u81, u82, u83, u84, u85, u86, u87, u88, u89, u90, u91, u92, u93, u94, u95, u96, u97, c98, c99, c100, c101, c102, c103, c104, c105, c106, c107, c108, c109, c110, c111, c112, c113, c114, c115, c116, c117, c118, c119, c120, c121, c122, c123, c124, c125, c126, c127, c128, c129, c130, c131, c132, c133, c134, c135, c136, c137, c138, c139, c140, c141, c142, c143, c144, c145, c146, c147, c148, c149, c150, c151, c152, c153, c154, c155, c156, c157, c158, c159, c160, c161, c162, c163, c164, c165, c166, c167, c168, c169, c170, c171, c172, c173, c174, c175, c176, c177, c178, c179, c180, c181, c182, c183, c184, c185, c186, c187, c188, c189, c190, c191, c192, c193, c194, c195, c196, c197, c198, c199, c200, c201, c202, c203, c204, c205, c206, c207, c208, c209, c210, c211, c212, c213, c214, c215, c216, c217, c218, c219, c220, c221, c222, c223, c224, c225, c226, c227, c228, c229, c230, c231, c232, c233, c234, c235, c236, c237, c238, c239, c240, c241, c242, c243, c244, c245, c246, c247, c248, c249, c250, c251, c252, c253, c254, c255, c256, c257, c258, c259, c260, c261, c262, c263, c264, c265, c266, c267, c268, c269, c270, c271, c272, c273, c274, c275, c276, c277, c278, c279, c280, c281, c282, c283, c284, c285, c286, c287, c288, c289, c290, c291, c292, c293, c294, c295, c296, c297, c298, c299, c300, c301, c302, c303, c304, c305, c306, c307, c308, c309, c310, c311, c312, c313, c314, c315, c316], []⟩ wx) :
    Code.wp Try.prog pieceB0 Q ⟨#[c0, c1, c2, c3, .int .i64 n, c5, c6, c7, c8, c9, c10, c11, c12, .pointer (some ⟨Wb.heap.size, 0, none⟩), .int .i64 (j : Int), c15, c16, c17, c18, c19, c20, c21, c22, c23, c24, c25, c26, c27, c28, c29, c30, c31, c32, c33, c34, c35, c36, c37, c38, c39, c40, c41, c42, c43, c44, c45, c46, c47, c48, c49, c50, c51, c52, c53, c54, c55, c56, c57, c58, c59, c60, c61, c62, .int .u8 r, c64, c65, c66, c67, c68, c69, c70, c71, c72, c73, c74, c75, c76, c77, c78, c79, c80, c81, c82, c83, c84, c85, c86, c87, c88, c89, c90, c91, c92, c93, c94, c95, c96, c97, c98, c99, c100, c101, c102, c103, c104, c105, c106, c107, c108, c109, c110, c111, c112, c113, c114, c115, c116, c117, c118, c119, c120, c121, c122, c123, c124, c125, c126, c127, c128, c129, c130, c131, c132, c133, c134, c135, c136, c137, c138, c139, c140, c141, c142, c143, c144, c145, c146, c147, c148, c149, c150, c151, c152, c153, c154, c155, c156, c157, c158, c159, c160, c161, c162, c163, c164, c165, c166, c167, c168, c169, c170, c171, c172, c173, c174, c175, c176, c177, c178, c179, c180, c181, c182, c183, c184, c185, c186, c187, c188, c189, c190, c191, c192, c193, c194, c195, c196, c197, c198, c199, c200, c201, c202, c203, c204, c205, c206, c207, c208, c209, c210, c211, c212, c213, c214, c215, c216, c217, c218, c219, c220, c221, c222, c223, c224, c225, c226, c227, c228, c229, c230, c231, c232, c233, c234, c235, c236, c237, c238, c239, c240, c241, c242, c243, c244, c245, c246, c247, c248, c249, c250, c251, c252, c253, c254, c255, c256, c257, c258, c259, c260, c261, c262, c263, c264, c265, c266, c267, c268, c269, c270, c271, c272, c273, c274, c275, c276, c277, c278, c279, c280, c281, c282, c283, c284, c285, c286, c287, c288, c289, c290, c291, c292, c293, c294, c295, c296, c297, c298, c299, c300, c301, c302, c303, c304, c305, c306, c307, c308, c309, c310, c311, c312, c313, c314, c315, c316], []⟩ W4 := by
  have HQ := Hd.mk @hQ
  clear hQ
  conv => arg 2; whnf
  have hlj := H_hm.out.lim j HJ.out
  have huj := H_hm.out.use j HJ.out
  have hwl : IntKind.i64.wrap (L j + 1) = L j + 1 := IntWalk.i64_in _ ⟨by omega, by omega⟩
  have hl13 := (cells_cell HT13.out j).trans (bk_lim L U j HJ.out)
  have hu13 := (cells_cell HT13.out (4 + j)).trans (bk_use L U j HJ.out)
  have fl13 := cells_free HT13.out j
  have fu13 := cells_free HT13.out (4 + j)
  have hr4 : r = 0 ∨ r = 1 ∨ r = 2 ∨ r = 3 := by omega
  rcases hr4 with rfl | rfl | rfl | rfl
  · go_wp2_with fail
    all_goals
      exact HQ.out _ _ _ (qw_use _ HJ.out (qw_lim _ HJ.out HT13.out)) (wrong_of j HJ.out (by simp only [upd, if_pos]; omega)) ((HX4.out.setCell (Nat.le_refl _) _).setCell (Nat.le_refl _) _)
  · go_wp2_with fail
    all_goals
      exact HQ.out _ _ _ (qw_lim _ HJ.out HT13.out) (wrong_of j HJ.out (by simp only [upd, if_pos]; omega)) (HX4.out.setCell (Nat.le_refl _) _)
  · go_wp2_with fail
    all_goals
      exact HQ.out _ _ _ (qw_use _ HJ.out HT13.out) (wrong_of j HJ.out (by simp only [upd, if_pos]; omega)) (HX4.out.setCell (Nat.le_refl _) _)
  · go_wp2_with fail
    all_goals
      exact HQ.out _ _ _ (qw_use _ HJ.out HT13.out) (wrong_of j HJ.out (by simp only [upd, if_pos]; omega)) (HX4.out.setCell (Nat.le_refl _) _)
end Go.Proofs.Ytppfhcocmpmadaa
