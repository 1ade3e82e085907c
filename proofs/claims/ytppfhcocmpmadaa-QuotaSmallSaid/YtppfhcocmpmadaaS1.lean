/- The law QuotaSmall: block 1, a round of the first loop, as a theorem of its own. -/
import Derived.Test.YtppfhcocmpmadaaPF
import Derived.Test.YtppfhcocmpmadaaT
namespace Go.Proofs.Ytppfhcocmpmadaa
open Go.RowKit
set_option linter.unusedVariables false

def blockOf (n : Nat) : Code → Option Code
  | .seq a b => match blockOf n a with
    | some c => some c
    | none => blockOf n b
  | .block id c => if id = n then some (.block id c) else blockOf n c
  | .loop c => blockOf n c
  | .scope c => blockOf n c
  | .cond _ a b => match blockOf n a with
    | some c => some c
    | none => blockOf n b
  | _ => none
noncomputable def pieceS1 : Code := ((Try.f10.body.bind (blockOf 1)).getD .skip)
theorem s6_keep {B W W' : World} {b1 i1 i2 i3 i4 : Nat} {x1 y1 x2 y2 x3 y3 x4 y4 : Int} (h : W.cell? ⟨b1, i1 * 2, none⟩ = some (.int .i64 x1) ∧ W.cell? ⟨b1, i1 * 2 + 1, none⟩ = some (.int .i64 y1) ∧ W.cell? ⟨b1, i2 * 2, none⟩ = some (.int .i64 x2) ∧ W.cell? ⟨b1, i2 * 2 + 1, none⟩ = some (.int .i64 y2) ∧ W.cell? ⟨b1, i3 * 2, none⟩ = some (.int .i64 x3) ∧ W.cell? ⟨b1, i3 * 2 + 1, none⟩ = some (.int .i64 y3) ∧ W.cell? ⟨b1, i4 * 2, none⟩ = some (.int .i64 x4) ∧ W.cell? ⟨b1, i4 * 2 + 1, none⟩ = some (.int .i64 y4) ∧ Below B.heap.size B W) (hB : Below W.heap.size W W') : W'.cell? ⟨b1, i1 * 2, none⟩ = some (.int .i64 x1) ∧ W'.cell? ⟨b1, i1 * 2 + 1, none⟩ = some (.int .i64 y1) ∧ W'.cell? ⟨b1, i2 * 2, none⟩ = some (.int .i64 x2) ∧ W'.cell? ⟨b1, i2 * 2 + 1, none⟩ = some (.int .i64 y2) ∧ W'.cell? ⟨b1, i3 * 2, none⟩ = some (.int .i64 x3) ∧ W'.cell? ⟨b1, i3 * 2 + 1, none⟩ = some (.int .i64 y3) ∧ W'.cell? ⟨b1, i4 * 2, none⟩ = some (.int .i64 x4) ∧ W'.cell? ⟨b1, i4 * 2 + 1, none⟩ = some (.int .i64 y4) ∧ Below B.heap.size B W' := by
  obtain ⟨h0, h1, h2, h3, h4, h5, h6, h7, h8⟩ := h
  exact ⟨(hB.cell (p := ⟨b1, i1 * 2, none⟩) (World.block_lt_of_cell? _ _ h0)).trans h0, (hB.cell (p := ⟨b1, i1 * 2 + 1, none⟩) (World.block_lt_of_cell? _ _ h1)).trans h1, (hB.cell (p := ⟨b1, i2 * 2, none⟩) (World.block_lt_of_cell? _ _ h2)).trans h2, (hB.cell (p := ⟨b1, i2 * 2 + 1, none⟩) (World.block_lt_of_cell? _ _ h3)).trans h3, (hB.cell (p := ⟨b1, i3 * 2, none⟩) (World.block_lt_of_cell? _ _ h4)).trans h4, (hB.cell (p := ⟨b1, i3 * 2 + 1, none⟩) (World.block_lt_of_cell? _ _ h5)).trans h5, (hB.cell (p := ⟨b1, i4 * 2, none⟩) (World.block_lt_of_cell? _ _ h6)).trans h6, (hB.cell (p := ⟨b1, i4 * 2 + 1, none⟩) (World.block_lt_of_cell? _ _ h7)).trans h7, ch4 h8 hB⟩
theorem s6_below {B W : World} {b1 i1 i2 i3 i4 : Nat} {x1 y1 x2 y2 x3 y3 x4 y4 : Int} (h : W.cell? ⟨b1, i1 * 2, none⟩ = some (.int .i64 x1) ∧ W.cell? ⟨b1, i1 * 2 + 1, none⟩ = some (.int .i64 y1) ∧ W.cell? ⟨b1, i2 * 2, none⟩ = some (.int .i64 x2) ∧ W.cell? ⟨b1, i2 * 2 + 1, none⟩ = some (.int .i64 y2) ∧ W.cell? ⟨b1, i3 * 2, none⟩ = some (.int .i64 x3) ∧ W.cell? ⟨b1, i3 * 2 + 1, none⟩ = some (.int .i64 y3) ∧ W.cell? ⟨b1, i4 * 2, none⟩ = some (.int .i64 x4) ∧ W.cell? ⟨b1, i4 * 2 + 1, none⟩ = some (.int .i64 y4) ∧ Below B.heap.size B W) : Below B.heap.size B W := by
  obtain ⟨h0, h1, h2, h3, h4, h5, h6, h7, h8⟩ := h
  exact h8
theorem s7_keep {B W W' : World} {b2 j1 j2 : Nat} {L1 U1 L2 U2 : Nat → Int} (h : W.cell? ⟨b2, j1 * 8, none⟩ = some (.int .i64 (L1 0)) ∧ W.cell? ⟨b2, j1 * 8 + 1, none⟩ = some (.int .i64 (L1 1)) ∧ W.cell? ⟨b2, j1 * 8 + 2, none⟩ = some (.int .i64 (L1 2)) ∧ W.cell? ⟨b2, j1 * 8 + 3, none⟩ = some (.int .i64 (L1 3)) ∧ W.cell? ⟨b2, j1 * 8 + 4, none⟩ = some (.int .i64 (U1 0)) ∧ W.cell? ⟨b2, j1 * 8 + 5, none⟩ = some (.int .i64 (U1 1)) ∧ W.cell? ⟨b2, j1 * 8 + 6, none⟩ = some (.int .i64 (U1 2)) ∧ W.cell? ⟨b2, j1 * 8 + 7, none⟩ = some (.int .i64 (U1 3)) ∧ W.cell? ⟨b2, j2 * 8, none⟩ = some (.int .i64 (L2 0)) ∧ W.cell? ⟨b2, j2 * 8 + 1, none⟩ = some (.int .i64 (L2 1)) ∧ W.cell? ⟨b2, j2 * 8 + 2, none⟩ = some (.int .i64 (L2 2)) ∧ W.cell? ⟨b2, j2 * 8 + 3, none⟩ = some (.int .i64 (L2 3)) ∧ W.cell? ⟨b2, j2 * 8 + 4, none⟩ = some (.int .i64 (U2 0)) ∧ W.cell? ⟨b2, j2 * 8 + 5, none⟩ = some (.int .i64 (U2 1)) ∧ W.cell? ⟨b2, j2 * 8 + 6, none⟩ = some (.int .i64 (U2 2)) ∧ W.cell? ⟨b2, j2 * 8 + 7, none⟩ = some (.int .i64 (U2 3)) ∧ Below B.heap.size B W) (hB : Below W.heap.size W W') : W'.cell? ⟨b2, j1 * 8, none⟩ = some (.int .i64 (L1 0)) ∧ W'.cell? ⟨b2, j1 * 8 + 1, none⟩ = some (.int .i64 (L1 1)) ∧ W'.cell? ⟨b2, j1 * 8 + 2, none⟩ = some (.int .i64 (L1 2)) ∧ W'.cell? ⟨b2, j1 * 8 + 3, none⟩ = some (.int .i64 (L1 3)) ∧ W'.cell? ⟨b2, j1 * 8 + 4, none⟩ = some (.int .i64 (U1 0)) ∧ W'.cell? ⟨b2, j1 * 8 + 5, none⟩ = some (.int .i64 (U1 1)) ∧ W'.cell? ⟨b2, j1 * 8 + 6, none⟩ = some (.int .i64 (U1 2)) ∧ W'.cell? ⟨b2, j1 * 8 + 7, none⟩ = some (.int .i64 (U1 3)) ∧ W'.cell? ⟨b2, j2 * 8, none⟩ = some (.int .i64 (L2 0)) ∧ W'.cell? ⟨b2, j2 * 8 + 1, none⟩ = some (.int .i64 (L2 1)) ∧ W'.cell? ⟨b2, j2 * 8 + 2, none⟩ = some (.int .i64 (L2 2)) ∧ W'.cell? ⟨b2, j2 * 8 + 3, none⟩ = some (.int .i64 (L2 3)) ∧ W'.cell? ⟨b2, j2 * 8 + 4, none⟩ = some (.int .i64 (U2 0)) ∧ W'.cell? ⟨b2, j2 * 8 + 5, none⟩ = some (.int .i64 (U2 1)) ∧ W'.cell? ⟨b2, j2 * 8 + 6, none⟩ = some (.int .i64 (U2 2)) ∧ W'.cell? ⟨b2, j2 * 8 + 7, none⟩ = some (.int .i64 (U2 3)) ∧ Below B.heap.size B W' := by
  obtain ⟨h0, h1, h2, h3, h4, h5, h6, h7, h8, h9, h10, h11, h12, h13, h14, h15, h16⟩ := h
  exact ⟨(hB.cell (p := ⟨b2, j1 * 8, none⟩) (World.block_lt_of_cell? _ _ h0)).trans h0, (hB.cell (p := ⟨b2, j1 * 8 + 1, none⟩) (World.block_lt_of_cell? _ _ h1)).trans h1, (hB.cell (p := ⟨b2, j1 * 8 + 2, none⟩) (World.block_lt_of_cell? _ _ h2)).trans h2, (hB.cell (p := ⟨b2, j1 * 8 + 3, none⟩) (World.block_lt_of_cell? _ _ h3)).trans h3, (hB.cell (p := ⟨b2, j1 * 8 + 4, none⟩) (World.block_lt_of_cell? _ _ h4)).trans h4, (hB.cell (p := ⟨b2, j1 * 8 + 5, none⟩) (World.block_lt_of_cell? _ _ h5)).trans h5, (hB.cell (p := ⟨b2, j1 * 8 + 6, none⟩) (World.block_lt_of_cell? _ _ h6)).trans h6, (hB.cell (p := ⟨b2, j1 * 8 + 7, none⟩) (World.block_lt_of_cell? _ _ h7)).trans h7, (hB.cell (p := ⟨b2, j2 * 8, none⟩) (World.block_lt_of_cell? _ _ h8)).trans h8, (hB.cell (p := ⟨b2, j2 * 8 + 1, none⟩) (World.block_lt_of_cell? _ _ h9)).trans h9, (hB.cell (p := ⟨b2, j2 * 8 + 2, none⟩) (World.block_lt_of_cell? _ _ h10)).trans h10, (hB.cell (p := ⟨b2, j2 * 8 + 3, none⟩) (World.block_lt_of_cell? _ _ h11)).trans h11, (hB.cell (p := ⟨b2, j2 * 8 + 4, none⟩) (World.block_lt_of_cell? _ _ h12)).trans h12, (hB.cell (p := ⟨b2, j2 * 8 + 5, none⟩) (World.block_lt_of_cell? _ _ h13)).trans h13, (hB.cell (p := ⟨b2, j2 * 8 + 6, none⟩) (World.block_lt_of_cell? _ _ h14)).trans h14, (hB.cell (p := ⟨b2, j2 * 8 + 7, none⟩) (World.block_lt_of_cell? _ _ h15)).trans h15, ch4 h16 hB⟩
theorem s7_below {B W : World} {b2 j1 j2 : Nat} {L1 U1 L2 U2 : Nat → Int} (h : W.cell? ⟨b2, j1 * 8, none⟩ = some (.int .i64 (L1 0)) ∧ W.cell? ⟨b2, j1 * 8 + 1, none⟩ = some (.int .i64 (L1 1)) ∧ W.cell? ⟨b2, j1 * 8 + 2, none⟩ = some (.int .i64 (L1 2)) ∧ W.cell? ⟨b2, j1 * 8 + 3, none⟩ = some (.int .i64 (L1 3)) ∧ W.cell? ⟨b2, j1 * 8 + 4, none⟩ = some (.int .i64 (U1 0)) ∧ W.cell? ⟨b2, j1 * 8 + 5, none⟩ = some (.int .i64 (U1 1)) ∧ W.cell? ⟨b2, j1 * 8 + 6, none⟩ = some (.int .i64 (U1 2)) ∧ W.cell? ⟨b2, j1 * 8 + 7, none⟩ = some (.int .i64 (U1 3)) ∧ W.cell? ⟨b2, j2 * 8, none⟩ = some (.int .i64 (L2 0)) ∧ W.cell? ⟨b2, j2 * 8 + 1, none⟩ = some (.int .i64 (L2 1)) ∧ W.cell? ⟨b2, j2 * 8 + 2, none⟩ = some (.int .i64 (L2 2)) ∧ W.cell? ⟨b2, j2 * 8 + 3, none⟩ = some (.int .i64 (L2 3)) ∧ W.cell? ⟨b2, j2 * 8 + 4, none⟩ = some (.int .i64 (U2 0)) ∧ W.cell? ⟨b2, j2 * 8 + 5, none⟩ = some (.int .i64 (U2 1)) ∧ W.cell? ⟨b2, j2 * 8 + 6, none⟩ = some (.int .i64 (U2 2)) ∧ W.cell? ⟨b2, j2 * 8 + 7, none⟩ = some (.int .i64 (U2 3)) ∧ Below B.heap.size B W) : Below B.heap.size B W := by
  obtain ⟨h0, h1, h2, h3, h4, h5, h6, h7, h8, h9, h10, h11, h12, h13, h14, h15, h16⟩ := h
  exact h16

set_option maxRecDepth 1000000 in
set_option maxHeartbeats 8000000 in
theorem rS1 (n : Nat) (hn : n < 6561) (b1 b2 : Nat) (s9 : List (Int × Int)) (h9 : s9.length = 9) (wr : World) (HS : Hd (SrcC wr (.slice (some ⟨b1, 0, none⟩) 9 9) s9))
    (HBK : Hd (∀ j, j < 3 → ∃ L U : Nat → Int, wr.cell? ⟨b2, j * 8, none⟩ = some (.int .i64 (L 0)) ∧ wr.cell? ⟨b2, j * 8 + 1, none⟩ = some (.int .i64 (L 1)) ∧ wr.cell? ⟨b2, j * 8 + 2, none⟩ = some (.int .i64 (L 2)) ∧ wr.cell? ⟨b2, j * 8 + 3, none⟩ = some (.int .i64 (L 3)) ∧ wr.cell? ⟨b2, j * 8 + 4, none⟩ = some (.int .i64 (U 0)) ∧ wr.cell? ⟨b2, j * 8 + 5, none⟩ = some (.int .i64 (U 1)) ∧ wr.cell? ⟨b2, j * 8 + 6, none⟩ = some (.int .i64 (U 2)) ∧ wr.cell? ⟨b2, j * 8 + 7, none⟩ = some (.int .i64 (U 3)))) (Q : Exit → Act → World → Prop) (hP : ∀ c (a : Act) (t : Tmp) v w, Q (.panic c) (a.put (some t) v) w → Q (.panic c) a w)
    {c0 c3 c4 c5 c6 c7 c8 c9 c10 c11 c12 c13 c14 c15 c16 c17 c18 c19 c20 c21 c22 c23 c24 c25 c26 c27 c28 c29 c30 c31 c32 c33 c34 c35 c36 c37 c38 c39 c40 c41 c42 c43 c44 c45 c46 c47 c48 c49 c50 c51 c52 c53 c55 c56 c57 c58 c59 c60 c61 c62 c63 c64 c65 c66 c67 c68 c69 c70 c71 c72 c73 c74 c75 c76 c77 c78 c79 c80 c81 c82 c83 c84 c85 c86 c87 c88 c89 c90 c91 c92 c93 c94 c95 c96 c97 c98 c99 c100 c101 c102 c103 c104 c105 c106 c107 c108 c109 c110 c111 c112 c113 c114 c115 c116 c117 c118 c119 c120 c121 c122 c123 c124 c125 c126 c127 c128 c129 c130 c131 c132 c133 c134 c135 c136 c137 c138 c139 c140 c141 c142 c143 c144 c145 c146 c147 c148 c149 c150 c151 c152 c153 c154 c155 c156 c157 c158 c159 c160 c161 c162 c163 c164 c165 c166 c167 c168 c169 c170 c171 c172 c173 c174 c175 c176 c177 c178 c179 c180 c181 c182 c183 c184 c185 c186 c187 c188 c189 c190 c191 c192 c193 c194 c195 c196 c197 c198 c199 c200 c201 c202 c203 c204 c205 c206 c207 c208 c209 c210 c211 c212 c213 c214 c215 c216 c217 c218 c219 c220 c221 c222 c223 c224 c225 c226 c227 c228 c229 c230 c231 c232 c233 c234 c235 c236 c237 c238 c239 c240 c241 c242 c243 c244 c245 c246 c247 c248 c249 c250 c251 c252 c253 c254 c255 c256 c257 c258 c259 c260 c261 c262 c263 c264 c265 c266 c267 c268 c269 c270 c271 c272 c273 c274 c275 c276 c277 c278 c279 c280 c281 c282 c283 c284 c285 c286 c287 c288 c289 c290 c291 c292 c293 c294 c295 c296 c297 c298 c299 c300 c301 c302 c303 c304 c305 c306 c307 c308 c309 c310 c311 c312 : Value}
    (hQ : ∀ {u3 u4 u56 u57 u58 u59 u60 u61 u62 u63 u64 u65 u66 u67 u68 u69 u70 u71 u72 u73 u74 u75 u76 u77 u78 u79 u80 u81 u82 u83 u84 u85 u86 u87 u88 u89 u90 u91 u92 u93 u94 u95 u96 u97 u98 u99 u100 u101 u102 u103 u104 u105 u106 u107 u108 u109 u110 u111 : Value} (wx : World), Below wr.heap.size wr wx → Q .normal ⟨#[c0, .slice (some ⟨b1, 0, none⟩) 9 9, .slice (some ⟨b2, 0, none⟩) 3 3, u3, u4, c5, c6, c7, c8, c9, c10, c11, c12, c13, c14, c15, c16, c17, c18, c19, c20, c21, c22, c23, c24, c25, c26, c27, c28, c29, c30, c31, c32, c33, c34, c35, c36, c37, c38, c39, c40, c41, c42, c43, c44, c45, c46, c47, c48, c49, c50, c51, c52, c53, .int .i64 (n : Int), c55, u56, u57, u58, u59, u60, u61, u62, u63, u64, u65, u66, u67, u68, u69, u70, u71, u72, u73, u74, u75, u76, u77, u78, u79, u80, u81, u82, u83, u84, u85, u86, u87, u88, u89, u90, u91, u92, u93, u94, u95, u96, u97, u98, u99, u100, u101, u102, u103, u104, u105, u106, u107, u108, u109, u110, u111, c112, c113, c114, c115, c116, c117, c118, c119, c120, c121, c122, c123, c124, c125, c126, c127, c128, c129, c130, c131, c132, c133, c134, c135, c136, c137, c138, c139, c140, c141, c142, c143, c144, c145, c146, c147, c148, c149, c150, c151, c152, c153, c154, c155, c156, c157, c158, c159, c160, c161, c162, c163, c164, c165, c166, c167, c168, c169, c170, c171, c172, c173, c174, c175, c176, c177, c178, c179, c180, c181, c182, c183, c184, c185, c186, c187, c188, c189, c190, c191, c192, c193, c194, c195, c196, c197, c198, c199, c200, c201, c202, c203, c204, c205, c206, c207, c208, c209, c210, c211, c212, c213, c214, c215, c216, c217, c218, c219, c220, c221, c222, c223, c224, c225, c226, c227, c228, c229, c230, c231, c232, c233, c234, c235, c236, c237, c238, c239, c240, c241, c242, c243, c244, c245, c246, c247, c248, c249, c250, c251, c252, c253, c254, c255, c256, c257, c258, c259, c260, c261, c262, c263, c264, c265, c266, c267, c268, c269, c270, c271, c272, c273, c274, c275, c276, c277, c278, c279, c280, c281, c282, c283, c284, c285, c286, c287, c288, c289, c290, c291, c292, c293, c294, c295, c296, c297, c298, c299, c300, c301, c302, c303, c304, c305, c306, c307, c308, c309, c310, c311, c312], []⟩ wx) :
    Code.wp Try.prog pieceS1 Q ⟨#[c0, .slice (some ⟨b1, 0, none⟩) 9 9, .slice (some ⟨b2, 0, none⟩) 3 3, c3, c4, c5, c6, c7, c8, c9, c10, c11, c12, c13, c14, c15, c16, c17, c18, c19, c20, c21, c22, c23, c24, c25, c26, c27, c28, c29, c30, c31, c32, c33, c34, c35, c36, c37, c38, c39, c40, c41, c42, c43, c44, c45, c46, c47, c48, c49, c50, c51, c52, c53, .int .i64 (n : Int), c55, c56, c57, c58, c59, c60, c61, c62, c63, c64, c65, c66, c67, c68, c69, c70, c71, c72, c73, c74, c75, c76, c77, c78, c79, c80, c81, c82, c83, c84, c85, c86, c87, c88, c89, c90, c91, c92, c93, c94, c95, c96, c97, c98, c99, c100, c101, c102, c103, c104, c105, c106, c107, c108, c109, c110, c111, c112, c113, c114, c115, c116, c117, c118, c119, c120, c121, c122, c123, c124, c125, c126, c127, c128, c129, c130, c131, c132, c133, c134, c135, c136, c137, c138, c139, c140, c141, c142, c143, c144, c145, c146, c147, c148, c149, c150, c151, c152, c153, c154, c155, c156, c157, c158, c159, c160, c161, c162, c163, c164, c165, c166, c167, c168, c169, c170, c171, c172, c173, c174, c175, c176, c177, c178, c179, c180, c181, c182, c183, c184, c185, c186, c187, c188, c189, c190, c191, c192, c193, c194, c195, c196, c197, c198, c199, c200, c201, c202, c203, c204, c205, c206, c207, c208, c209, c210, c211, c212, c213, c214, c215, c216, c217, c218, c219, c220, c221, c222, c223, c224, c225, c226, c227, c228, c229, c230, c231, c232, c233, c234, c235, c236, c237, c238, c239, c240, c241, c242, c243, c244, c245, c246, c247, c248, c249, c250, c251, c252, c253, c254, c255, c256, c257, c258, c259, c260, c261, c262, c263, c264, c265, c266, c267, c268, c269, c270, c271, c272, c273, c274, c275, c276, c277, c278, c279, c280, c281, c282, c283, c284, c285, c286, c287, c288, c289, c290, c291, c292, c293, c294, c295, c296, c297, c298, c299, c300, c301, c302, c303, c304, c305, c306, c307, c308, c309, c310, c311, c312], []⟩ wr := by
  have HQ := Hd.mk @hQ
  have HP := Hd.mk hP
  clear hQ hP
  obtain ⟨i1, hi1⟩ : ∃ i, i = n % 9 := ⟨_, rfl⟩
  obtain ⟨q1, hq1⟩ : ∃ i, i = n / 9 := ⟨_, rfl⟩
  obtain ⟨i2, hi2⟩ : ∃ i, i = q1 % 9 := ⟨_, rfl⟩
  obtain ⟨q2, hq2⟩ : ∃ i, i = n / 81 := ⟨_, rfl⟩
  obtain ⟨i3, hi3⟩ : ∃ i, i = q2 % 9 := ⟨_, rfl⟩
  obtain ⟨i4, hi4⟩ : ∃ i, i = n / 729 := ⟨_, rfl⟩
  have hc : ∀ i, i < 9 → ∃ x y : Int, wr.cell? ⟨b1, i * 2, none⟩ = some (.int .i64 x) ∧ wr.cell? ⟨b1, i * 2 + 1, none⟩ = some (.int .i64 y) := fun i hi => by
    obtain ⟨b, off, hb, -, h1, h2⟩ := (h9 ▸ HS.out : SrcC wr (.slice (some ⟨b1, 0, none⟩) s9.length s9.length) s9).at i (by omega)
    simp only [Option.some.injEq, Addr.mk.injEq] at hb
    obtain ⟨rfl, rfl, -⟩ := hb
    rw [Nat.zero_add] at h1 h2
    exact ⟨_, _, h1, h2⟩
  obtain ⟨x1, y1, hx1, hy1⟩ := hc i1 (by omega)
  obtain ⟨x2, y2, hx2, hy2⟩ := hc i2 (by omega)
  obtain ⟨x3, y3, hx3, hy3⟩ := hc i3 (by omega)
  obtain ⟨x4, y4, hx4, hy4⟩ := hc i4 (by omega)
  obtain ⟨j1, hj1⟩ : ∃ i, i = n % 3 := ⟨_, rfl⟩
  obtain ⟨q3, hq3⟩ : ∃ i, i = n / 3 := ⟨_, rfl⟩
  obtain ⟨j2, hj2⟩ : ∃ i, i = q3 % 3 := ⟨_, rfl⟩
  obtain ⟨m4, hm4⟩ : ∃ i, i = n % 4 := ⟨_, rfl⟩
  obtain ⟨L1, U1, hb1⟩ := HBK.out j1 (by omega)
  obtain ⟨L2, U2, hb2⟩ := HBK.out j2 (by omega)
  have HC1 := Hd.mk hb1
  have HC2 := Hd.mk hb2
  have r_1 : Int.tmod (n : Int) 9 = (i1 : Int) := by rw [Int.tmod_eq_emod_of_nonneg (by omega)]; omega
  have e_1 : (n : Int) % 9 = (i1 : Int) := by omega
  have d_1 : Int.tdiv (n : Int) 9 = (q1 : Int) := by rw [Int.tdiv_eq_ediv_of_nonneg (by omega)]; omega
  have f_1 : (n : Int) / 9 = (q1 : Int) := by omega
  have w_1 : IntKind.i64.wrap (q1 : Int) = (q1 : Int) := IntWalk.i64_in _ ⟨by omega, by omega⟩
  have r_2 : Int.tmod (q1 : Int) 9 = (i2 : Int) := by rw [Int.tmod_eq_emod_of_nonneg (by omega)]; omega
  have e_2 : (q1 : Int) % 9 = (i2 : Int) := by omega
  have d_2 : Int.tdiv (n : Int) 81 = (q2 : Int) := by rw [Int.tdiv_eq_ediv_of_nonneg (by omega)]; omega
  have f_2 : (n : Int) / 81 = (q2 : Int) := by omega
  have w_2 : IntKind.i64.wrap (q2 : Int) = (q2 : Int) := IntWalk.i64_in _ ⟨by omega, by omega⟩
  have r_3 : Int.tmod (q2 : Int) 9 = (i3 : Int) := by rw [Int.tmod_eq_emod_of_nonneg (by omega)]; omega
  have e_3 : (q2 : Int) % 9 = (i3 : Int) := by omega
  have d_4 : Int.tdiv (n : Int) 729 = (i4 : Int) := by rw [Int.tdiv_eq_ediv_of_nonneg (by omega)]; omega
  have f_4 : (n : Int) / 729 = (i4 : Int) := by omega
  have w_4 : IntKind.i64.wrap (i4 : Int) = (i4 : Int) := IntWalk.i64_in _ ⟨by omega, by omega⟩
  have r_5 : Int.tmod (n : Int) 3 = (j1 : Int) := by rw [Int.tmod_eq_emod_of_nonneg (by omega)]; omega
  have e_5 : (n : Int) % 3 = (j1 : Int) := by omega
  have d_5 : Int.tdiv (n : Int) 3 = (q3 : Int) := by rw [Int.tdiv_eq_ediv_of_nonneg (by omega)]; omega
  have f_5 : (n : Int) / 3 = (q3 : Int) := by omega
  have w_5 : IntKind.i64.wrap (q3 : Int) = (q3 : Int) := IntWalk.i64_in _ ⟨by omega, by omega⟩
  have r_6 : Int.tmod (q3 : Int) 3 = (j2 : Int) := by rw [Int.tmod_eq_emod_of_nonneg (by omega)]; omega
  have e_6 : (q3 : Int) % 3 = (j2 : Int) := by omega
  have r_7 : Int.tmod (n : Int) 4 = (m4 : Int) := by rw [Int.tmod_eq_emod_of_nonneg (by omega)]; omega
  have e_7 : (n : Int) % 4 = (m4 : Int) := by omega
  have l_i1 : (i1 : Int) < 9 := by omega
  have z_i1 : (0 : Int) ≤ (i1 : Int) := by omega
  have l_i2 : (i2 : Int) < 9 := by omega
  have z_i2 : (0 : Int) ≤ (i2 : Int) := by omega
  have l_i3 : (i3 : Int) < 9 := by omega
  have z_i3 : (0 : Int) ≤ (i3 : Int) := by omega
  have l_i4 : (i4 : Int) < 9 := by omega
  have z_i4 : (0 : Int) ≤ (i4 : Int) := by omega
  have l_j1 : (j1 : Int) < 3 := by omega
  have z_j1 : (0 : Int) ≤ (j1 : Int) := by omega
  have l_j2 : (j2 : Int) < 3 := by omega
  have z_j2 : (0 : Int) ≤ (j2 : Int) := by omega
  have z_m : (0 : Int) ≤ (m4 : Int) := by omega
  have l_m : (m4 : Int) ≤ 4 := by omega
  have l_m2 : m4 ≤ 4 := by omega
  clear hi1 hq1 hi2 hq2 hi3 hi4 hj1 hq3 hj2 hm4 hc hb1 hb2
  conv => arg 2; whnf
  go_upto_region 6 with fail
  have hS0 : wr.cell? ⟨b1, i1 * 2, none⟩ = some (.int .i64 x1) ∧ wr.cell? ⟨b1, i1 * 2 + 1, none⟩ = some (.int .i64 y1) ∧ wr.cell? ⟨b1, i2 * 2, none⟩ = some (.int .i64 x2) ∧ wr.cell? ⟨b1, i2 * 2 + 1, none⟩ = some (.int .i64 y2) ∧ wr.cell? ⟨b1, i3 * 2, none⟩ = some (.int .i64 x3) ∧ wr.cell? ⟨b1, i3 * 2 + 1, none⟩ = some (.int .i64 y3) ∧ wr.cell? ⟨b1, i4 * 2, none⟩ = some (.int .i64 x4) ∧ wr.cell? ⟨b1, i4 * 2 + 1, none⟩ = some (.int .i64 y4) ∧ Below wr.heap.size wr wr := ⟨hx1, hy1, hx2, hy2, hx3, hy3, hx4, hy4, Below.refl _ _⟩
  have HS0 := Hd.mk hS0
  clear hS0 hx1 hy1 hx2 hy2 hx3 hy3 hx4 hy4
  go_region_held3 (fun W => W.cell? ⟨b1, i1 * 2, none⟩ = some (.int .i64 x1) ∧ W.cell? ⟨b1, i1 * 2 + 1, none⟩ = some (.int .i64 y1) ∧ W.cell? ⟨b1, i2 * 2, none⟩ = some (.int .i64 x2) ∧ W.cell? ⟨b1, i2 * 2 + 1, none⟩ = some (.int .i64 y2) ∧ W.cell? ⟨b1, i3 * 2, none⟩ = some (.int .i64 x3) ∧ W.cell? ⟨b1, i3 * 2 + 1, none⟩ = some (.int .i64 y3) ∧ W.cell? ⟨b1, i4 * 2, none⟩ = some (.int .i64 x4) ∧ W.cell? ⟨b1, i4 * 2 + 1, none⟩ = some (.int .i64 y4) ∧ Below wr.heap.size wr W)
    (first | with_reducible assumption | exact s6_keep HS0.out (by repeat (with_reducible first | exact Below.refl _ _ | apply bl_alloc | apply bl_drew | (apply bl_call; assumption))))
    (fail)
  obtain ⟨W6, hW⟩ : ∃ x, x = (wr.alloc (.cells #[.int .i64 x1, .int .i64 y1, .int .i64 x2, .int .i64 y2, .int .i64 x3, .int .i64 y3, .int .i64 x4, .int .i64 y4] 32)).drew := ⟨_, rfl⟩
  have HB6 : Hd (Below wr.heap.size wr W6) := ⟨by rw [hW]; exact ((Below.refl _ _).alloc (Nat.le_refl _) _).drew⟩
  have HSL : Hd (SrcC W6 (.slice (some ⟨wr.heap.size, 0, none⟩) 4 4) [(x1, y1), (x2, y2), (x3, y3), (x4, y4)]) := ⟨by rw [hW]; exact (srcLit wr [(x1, y1), (x2, y2), (x3, y3), (x4, y4)] (by simp)).below (Below.refl _ _).drew⟩
  rw [← hW]
  clear hW
  go_upto_region 7 with fail
  have hS0 : W6.cell? ⟨b2, j1 * 8, none⟩ = some (.int .i64 (L1 0)) ∧ W6.cell? ⟨b2, j1 * 8 + 1, none⟩ = some (.int .i64 (L1 1)) ∧ W6.cell? ⟨b2, j1 * 8 + 2, none⟩ = some (.int .i64 (L1 2)) ∧ W6.cell? ⟨b2, j1 * 8 + 3, none⟩ = some (.int .i64 (L1 3)) ∧ W6.cell? ⟨b2, j1 * 8 + 4, none⟩ = some (.int .i64 (U1 0)) ∧ W6.cell? ⟨b2, j1 * 8 + 5, none⟩ = some (.int .i64 (U1 1)) ∧ W6.cell? ⟨b2, j1 * 8 + 6, none⟩ = some (.int .i64 (U1 2)) ∧ W6.cell? ⟨b2, j1 * 8 + 7, none⟩ = some (.int .i64 (U1 3)) ∧ W6.cell? ⟨b2, j2 * 8, none⟩ = some (.int .i64 (L2 0)) ∧ W6.cell? ⟨b2, j2 * 8 + 1, none⟩ = some (.int .i64 (L2 1)) ∧ W6.cell? ⟨b2, j2 * 8 + 2, none⟩ = some (.int .i64 (L2 2)) ∧ W6.cell? ⟨b2, j2 * 8 + 3, none⟩ = some (.int .i64 (L2 3)) ∧ W6.cell? ⟨b2, j2 * 8 + 4, none⟩ = some (.int .i64 (U2 0)) ∧ W6.cell? ⟨b2, j2 * 8 + 5, none⟩ = some (.int .i64 (U2 1)) ∧ W6.cell? ⟨b2, j2 * 8 + 6, none⟩ = some (.int .i64 (U2 2)) ∧ W6.cell? ⟨b2, j2 * 8 + 7, none⟩ = some (.int .i64 (U2 3)) ∧ Below W6.heap.size W6 W6 := by
    obtain ⟨h0, h1, h2, h3, h4, h5, h6, h7⟩ := HC1.out
    obtain ⟨g0, g1, g2, g3, g4, g5, g6, g7⟩ := HC2.out
    exact ⟨(HB6.out.cell (p := ⟨b2, j1 * 8, none⟩) (World.block_lt_of_cell? _ _ h0)).trans h0, (HB6.out.cell (p := ⟨b2, j1 * 8 + 1, none⟩) (World.block_lt_of_cell? _ _ h1)).trans h1, (HB6.out.cell (p := ⟨b2, j1 * 8 + 2, none⟩) (World.block_lt_of_cell? _ _ h2)).trans h2, (HB6.out.cell (p := ⟨b2, j1 * 8 + 3, none⟩) (World.block_lt_of_cell? _ _ h3)).trans h3, (HB6.out.cell (p := ⟨b2, j1 * 8 + 4, none⟩) (World.block_lt_of_cell? _ _ h4)).trans h4, (HB6.out.cell (p := ⟨b2, j1 * 8 + 5, none⟩) (World.block_lt_of_cell? _ _ h5)).trans h5, (HB6.out.cell (p := ⟨b2, j1 * 8 + 6, none⟩) (World.block_lt_of_cell? _ _ h6)).trans h6, (HB6.out.cell (p := ⟨b2, j1 * 8 + 7, none⟩) (World.block_lt_of_cell? _ _ h7)).trans h7, (HB6.out.cell (p := ⟨b2, j2 * 8, none⟩) (World.block_lt_of_cell? _ _ g0)).trans g0, (HB6.out.cell (p := ⟨b2, j2 * 8 + 1, none⟩) (World.block_lt_of_cell? _ _ g1)).trans g1, (HB6.out.cell (p := ⟨b2, j2 * 8 + 2, none⟩) (World.block_lt_of_cell? _ _ g2)).trans g2, (HB6.out.cell (p := ⟨b2, j2 * 8 + 3, none⟩) (World.block_lt_of_cell? _ _ g3)).trans g3, (HB6.out.cell (p := ⟨b2, j2 * 8 + 4, none⟩) (World.block_lt_of_cell? _ _ g4)).trans g4, (HB6.out.cell (p := ⟨b2, j2 * 8 + 5, none⟩) (World.block_lt_of_cell? _ _ g5)).trans g5, (HB6.out.cell (p := ⟨b2, j2 * 8 + 6, none⟩) (World.block_lt_of_cell? _ _ g6)).trans g6, (HB6.out.cell (p := ⟨b2, j2 * 8 + 7, none⟩) (World.block_lt_of_cell? _ _ g7)).trans g7, Below.refl _ _⟩
  have HS1 := Hd.mk hS0
  clear hS0
  have HT1 : Hd (∀ (k n : Int) (W : World), Below W6.heap.size W6 W → Calls Try.prog 23 #[v8 (L1 0) (L1 1) (L1 2) (L1 3) (U1 0) (U1 1) (U1 2) (U1 3), .slice (some ⟨wr.heap.size, 0, none⟩) 4 4, .int .i64 k, .int .i64 n] W fun e w' => e = .returned (.bool true) ∧ Below W.heap.size W w') := ⟨fun k n W h => tells_any L1 U1 _ _ k n W (HSL.out.below h)⟩
  have HT2 : Hd (∀ (k n : Int) (W : World), Below W6.heap.size W6 W → Calls Try.prog 23 #[v8 (L2 0) (L2 1) (L2 2) (L2 3) (U2 0) (U2 1) (U2 2) (U2 3), .slice (some ⟨wr.heap.size, 0, none⟩) m4 4, .int .i64 k, .int .i64 n] W fun e w' => e = .returned (.bool true) ∧ Below W.heap.size W w') := ⟨fun k n W h => tells_any L2 U2 _ _ k n W ((HSL.out.below h).take m4 l_m2)⟩
  go_region_held3 (fun W => W.cell? ⟨b2, j1 * 8, none⟩ = some (.int .i64 (L1 0)) ∧ W.cell? ⟨b2, j1 * 8 + 1, none⟩ = some (.int .i64 (L1 1)) ∧ W.cell? ⟨b2, j1 * 8 + 2, none⟩ = some (.int .i64 (L1 2)) ∧ W.cell? ⟨b2, j1 * 8 + 3, none⟩ = some (.int .i64 (L1 3)) ∧ W.cell? ⟨b2, j1 * 8 + 4, none⟩ = some (.int .i64 (U1 0)) ∧ W.cell? ⟨b2, j1 * 8 + 5, none⟩ = some (.int .i64 (U1 1)) ∧ W.cell? ⟨b2, j1 * 8 + 6, none⟩ = some (.int .i64 (U1 2)) ∧ W.cell? ⟨b2, j1 * 8 + 7, none⟩ = some (.int .i64 (U1 3)) ∧ W.cell? ⟨b2, j2 * 8, none⟩ = some (.int .i64 (L2 0)) ∧ W.cell? ⟨b2, j2 * 8 + 1, none⟩ = some (.int .i64 (L2 1)) ∧ W.cell? ⟨b2, j2 * 8 + 2, none⟩ = some (.int .i64 (L2 2)) ∧ W.cell? ⟨b2, j2 * 8 + 3, none⟩ = some (.int .i64 (L2 3)) ∧ W.cell? ⟨b2, j2 * 8 + 4, none⟩ = some (.int .i64 (U2 0)) ∧ W.cell? ⟨b2, j2 * 8 + 5, none⟩ = some (.int .i64 (U2 1)) ∧ W.cell? ⟨b2, j2 * 8 + 6, none⟩ = some (.int .i64 (U2 2)) ∧ W.cell? ⟨b2, j2 * 8 + 7, none⟩ = some (.int .i64 (U2 3)) ∧ Below W6.heap.size W6 W)
    (first | with_reducible assumption | exact s7_keep HS1.out (by repeat (with_reducible first | exact Below.refl _ _ | apply bl_alloc | apply bl_drew | (apply bl_call; assumption))))
    (first
    | (go_at_call 23; with_reducible refine (HT1.out _ _ _ (s7_below (by assumption))).mono ?_; rintro e wk ⟨rfl, hBk⟩)
    | (go_at_call 23; with_reducible refine (HT2.out _ _ _ (s7_below (by assumption))).mono ?_; rintro e wk2 ⟨rfl, hBk⟩)
    )
  all_goals
    have HF := Hd.mk (ch4 HB6.out (s7_below (by assumption)))
    go_wp2_with fail
    exact HQ.out _ HF.out
end Go.Proofs.Ytppfhcocmpmadaa
