/- The law QuotaSmall: block 7, a round of the inmost loop, as a theorem of its own. -/
import Derived.Test.YtppfhcocmpmadaaS1
namespace Go.Proofs.Ytppfhcocmpmadaa
open Go.RowKit
set_option linter.unusedVariables false

noncomputable def pieceS2 : Code := ((Try.f10.body.bind (blockOf 7)).getD .skip)
theorem s2_book (e a b c d : Int) (g : Nat) (w : World) (hg : w.heap[g]? = some (.cells #[.int .i64 a, .int .i64 b, .int .i64 c, .int .i64 d] 3 (0, 0))) : Calls Try.prog 24 #[.int .i64 e, .slice (some ⟨g, 0, none⟩) 4 4] w fun x w' =>
    x = .returned (v8 a b c d e 0 0 0) ∧ Below w.heap.size w w' :=
  (book_any e a b c d g w hg).mono fun x w' ⟨he, hB⟩ => ⟨he.trans rfl, hB⟩
def s2L : Nat → Int := lst [5, 5, 5, 5]
def s2M : Nat → Int := lst [5, 5, 5, 1099511627776]
def s2U : Nat → Int := lst [1]
theorem s2_lim {W : World} {g j : Nat} {L U : Nat → Int} (v : Int) (hj : j < 4) (h : W.heap[g]? = some (.cells (bk L U) 27 (0, 0))) : (W.setCell ⟨g, j, none⟩ (.int .i64 v)).heap[g]? = some (.cells (bk (upd L j v) U) 27 (0, 0)) :=
  (cells_set h _).trans (by rw [bk_set_lim L U j hj])
theorem s2_use {W : World} {g j : Nat} {L U : Nat → Int} (v : Int) (hj : j < 4) (h : W.heap[g]? = some (.cells (bk L U) 27 (0, 0))) : (W.setCell ⟨g, 4 + j, none⟩ (.int .i64 v)).heap[g]? = some (.cells (bk L (upd U j v)) 27 (0, 0)) :=
  (cells_set h _).trans (by rw [bk_set_use L U j hj])

set_option maxRecDepth 1000000 in
set_option maxHeartbeats 8000000 in
theorem rS2 (p q : Int) (k : Nat) (hk : k < 4) (wr : World) (Q : Exit → Act → World → Prop)
    {c0 c1 c2 c3 c4 c5 c6 c8 c10 c11 c12 c13 c14 c15 c16 c17 c18 c19 c20 c21 c22 c23 c24 c25 c26 c27 c28 c29 c30 c31 c32 c33 c34 c35 c36 c37 c38 c39 c40 c41 c42 c43 c44 c45 c46 c47 c48 c49 c50 c51 c52 c53 c54 c55 c56 c57 c58 c59 c60 c61 c62 c63 c64 c65 c66 c67 c68 c69 c70 c71 c72 c73 c74 c75 c76 c77 c78 c79 c80 c81 c82 c83 c84 c85 c86 c87 c88 c89 c90 c91 c92 c93 c94 c95 c96 c97 c98 c99 c100 c101 c102 c103 c104 c105 c106 c107 c108 c109 c110 c111 c112 c113 c114 c115 c116 c117 c118 c119 c120 c121 c122 c123 c124 c125 c127 c128 c129 c130 c131 c132 c133 c134 c135 c136 c137 c138 c139 c140 c141 c142 c143 c144 c145 c146 c147 c148 c149 c150 c151 c152 c153 c154 c155 c156 c157 c158 c159 c160 c161 c162 c163 c164 c165 c166 c167 c168 c169 c170 c171 c172 c173 c174 c175 c176 c177 c178 c179 c180 c181 c182 c183 c184 c185 c186 c187 c188 c189 c190 c191 c192 c193 c194 c195 c196 c197 c198 c199 c200 c201 c202 c203 c204 c205 c206 c207 c208 c209 c210 c211 c212 c213 c214 c215 c216 c217 c218 c219 c220 c221 c222 c223 c224 c225 c226 c227 c228 c229 c230 c231 c232 c233 c234 c235 c236 c237 c238 c239 c240 c241 c242 c243 c244 c245 c246 c247 c248 c249 c250 c251 c252 c253 c254 c255 c256 c257 c258 c259 c260 c261 c262 c263 c264 c265 c266 c267 c268 c269 c270 c271 c272 c273 c274 c275 c276 c277 c278 c279 c280 c281 c282 c283 c284 c285 c286 c287 c288 c289 c290 c291 c292 c293 c294 c295 c296 c297 c298 c299 c300 c301 c302 c303 c304 c305 c306 c307 c308 c309 c310 c311 c312 : Value}
    (hQ : ∀ {u10 u11 u12 u128 u129 u130 u131 u132 u133 u134 u135 u136 u137 u138 u139 u140 u141 u142 u143 u144 u145 u146 u147 u148 u149 u150 u151 u152 u153 u154 u155 u156 u157 u158 u159 u160 u161 u162 u163 u164 u165 u166 u167 u168 u169 u170 u171 u172 u173 u174 u175 u176 : Value} (wx : World), Below wr.heap.size wr wx → Q .normal ⟨#[c0, c1, c2, c3, c4, c5, c6, .int .i64 p, c8, .int .i64 q, u10, u11, u12, c13, c14, c15, c16, c17, c18, c19, c20, c21, c22, c23, c24, c25, c26, c27, c28, c29, c30, c31, c32, c33, c34, c35, c36, c37, c38, c39, c40, c41, c42, c43, c44, c45, c46, c47, c48, c49, c50, c51, c52, c53, c54, c55, c56, c57, c58, c59, c60, c61, c62, c63, c64, c65, c66, c67, c68, c69, c70, c71, c72, c73, c74, c75, c76, c77, c78, c79, c80, c81, c82, c83, c84, c85, c86, c87, c88, c89, c90, c91, c92, c93, c94, c95, c96, c97, c98, c99, c100, c101, c102, c103, c104, c105, c106, c107, c108, c109, c110, c111, c112, c113, c114, c115, c116, c117, c118, c119, c120, c121, c122, c123, c124, c125, .int .i64 (k : Int), c127, u128, u129, u130, u131, u132, u133, u134, u135, u136, u137, u138, u139, u140, u141, u142, u143, u144, u145, u146, u147, u148, u149, u150, u151, u152, u153, u154, u155, u156, u157, u158, u159, u160, u161, u162, u163, u164, u165, u166, u167, u168, u169, u170, u171, u172, u173, u174, u175, u176, c177, c178, c179, c180, c181, c182, c183, c184, c185, c186, c187, c188, c189, c190, c191, c192, c193, c194, c195, c196, c197, c198, c199, c200, c201, c202, c203, c204, c205, c206, c207, c208, c209, c210, c211, c212, c213, c214, c215, c216, c217, c218, c219, c220, c221, c222, c223, c224, c225, c226, c227, c228, c229, c230, c231, c232, c233, c234, c235, c236, c237, c238, c239, c240, c241, c242, c243, c244, c245, c246, c247, c248, c249, c250, c251, c252, c253, c254, c255, c256, c257, c258, c259, c260, c261, c262, c263, c264, c265, c266, c267, c268, c269, c270, c271, c272, c273, c274, c275, c276, c277, c278, c279, c280, c281, c282, c283, c284, c285, c286, c287, c288, c289, c290, c291, c292, c293, c294, c295, c296, c297, c298, c299, c300, c301, c302, c303, c304, c305, c306, c307, c308, c309, c310, c311, c312], []⟩ wx) :
    Code.wp Try.prog pieceS2 Q ⟨#[c0, c1, c2, c3, c4, c5, c6, .int .i64 p, c8, .int .i64 q, c10, c11, c12, c13, c14, c15, c16, c17, c18, c19, c20, c21, c22, c23, c24, c25, c26, c27, c28, c29, c30, c31, c32, c33, c34, c35, c36, c37, c38, c39, c40, c41, c42, c43, c44, c45, c46, c47, c48, c49, c50, c51, c52, c53, c54, c55, c56, c57, c58, c59, c60, c61, c62, c63, c64, c65, c66, c67, c68, c69, c70, c71, c72, c73, c74, c75, c76, c77, c78, c79, c80, c81, c82, c83, c84, c85, c86, c87, c88, c89, c90, c91, c92, c93, c94, c95, c96, c97, c98, c99, c100, c101, c102, c103, c104, c105, c106, c107, c108, c109, c110, c111, c112, c113, c114, c115, c116, c117, c118, c119, c120, c121, c122, c123, c124, c125, .int .i64 (k : Int), c127, c128, c129, c130, c131, c132, c133, c134, c135, c136, c137, c138, c139, c140, c141, c142, c143, c144, c145, c146, c147, c148, c149, c150, c151, c152, c153, c154, c155, c156, c157, c158, c159, c160, c161, c162, c163, c164, c165, c166, c167, c168, c169, c170, c171, c172, c173, c174, c175, c176, c177, c178, c179, c180, c181, c182, c183, c184, c185, c186, c187, c188, c189, c190, c191, c192, c193, c194, c195, c196, c197, c198, c199, c200, c201, c202, c203, c204, c205, c206, c207, c208, c209, c210, c211, c212, c213, c214, c215, c216, c217, c218, c219, c220, c221, c222, c223, c224, c225, c226, c227, c228, c229, c230, c231, c232, c233, c234, c235, c236, c237, c238, c239, c240, c241, c242, c243, c244, c245, c246, c247, c248, c249, c250, c251, c252, c253, c254, c255, c256, c257, c258, c259, c260, c261, c262, c263, c264, c265, c266, c267, c268, c269, c270, c271, c272, c273, c274, c275, c276, c277, c278, c279, c280, c281, c282, c283, c284, c285, c286, c287, c288, c289, c290, c291, c292, c293, c294, c295, c296, c297, c298, c299, c300, c301, c302, c303, c304, c305, c306, c307, c308, c309, c310, c311, c312], []⟩ wr := by
  have HQ := Hd.mk @hQ
  have HK := Hd.mk hk
  have k0 : (0 : Int) ≤ (k : Int) := by omega
  have k1 : (k : Int) < 4 := by omega
  have HB : Hd (Below wr.heap.size wr wr) := ⟨Below.refl _ _⟩
  clear hQ hk
  conv => arg 2; whnf
  go_wp2_with fail
  refine (s2_book 1 5 5 5 5 _ _ (World.alloc_heap_new wr _)).mono ?_
  rintro e w1 ⟨rfl, hB⟩
  have hX := ((Below.refl wr.heap.size wr).alloc (Nat.le_refl _) (.cells #[.int .i64 5, .int .i64 5, .int .i64 5, .int .i64 5] 3)).trans (hB.mono (by simp))
  have HB_1 := Hd.mk (ch4 HB.out hX)
  clear HB
  clear hB hX
  have hb1sz : wr.heap.size ≤ w1.heap.size := HB_1.out.size
  go_upto_region 21 with fail
  obtain ⟨W1, hW⟩ : ∃ W, W = w1.alloc (.cells #[.int .i64 5, .int .i64 5, .int .i64 5, .int .i64 5, .int .i64 1, .int .i64 0, .int .i64 0, .int .i64 0] 27) := ⟨_, rfl⟩
  have hX : Below w1.heap.size w1 W1 := by rw [hW]; exact (Below.refl _ _).alloc (Nat.le_refl _) _
  have hT : W1.heap[w1.heap.size]? = some (.cells (bk s2L s2U) 27 (0, 0)) := by rw [hW]; exact World.alloc_heap_new _ _
  rw [← hW]
  have HT11 := Hd.mk hT
  clear hW hT
  have HB_c1 := Hd.mk (ch4 HB_1.out hX)
  clear HB_1
  clear hX
  have hl := (cells_cell HT11.out k).trans (bk_lim s2L s2U k HK.out)
  have hu := (cells_cell HT11.out (4 + k)).trans (bk_use s2L s2U k HK.out)
  have fl := cells_free HT11.out k
  have fu := cells_free HT11.out (4 + k)
  go_upto_region 22 with fail
  clear hl hu fl fu
  obtain ⟨W2, hW⟩ : ∃ W, W = (W1.setCell ⟨w1.heap.size, k, none⟩ (.int .i64 p)).setCell ⟨w1.heap.size, 4 + k, none⟩ (.int .i64 q) := ⟨_, rfl⟩
  obtain ⟨M, hM⟩ : ∃ M, upd s2L k p = M := ⟨_, rfl⟩
  obtain ⟨N, hN⟩ : ∃ N, upd s2U k q = N := ⟨_, rfl⟩
  have HT2 : Hd (W2.heap[w1.heap.size]? = some (.cells (bk M N) 27 (0, 0))) := ⟨by rw [hW, ← hM, ← hN]; exact s2_use q HK.out (s2_lim p HK.out HT11.out)⟩
  have HB2 : Hd (Below wr.heap.size wr W2) := ⟨by rw [hW]; exact (HB_c1.out.setCell (by have := hb1sz; exact this) _).setCell (by have := hb1sz; exact this) _⟩
  rw [← hW]
  clear hW hM hN HB_c1 HT11
  go_wp2_with fail
  refine (s2_book 1 5 5 5 1099511627776 _ _ (World.alloc_heap_new W2 _)).mono ?_
  rintro e w3 ⟨rfl, hB⟩
  have hX := ((Below.refl W2.heap.size W2).alloc (Nat.le_refl _) (.cells #[.int .i64 5, .int .i64 5, .int .i64 5, .int .i64 1099511627776] 3)).trans (hB.mono (by simp))
  have HB_3 := Hd.mk (ch4 HB2.out hX)
  have HT11_3 := Hd.mk (keep HT2.out hX)
  clear HB2 HT2
  clear hB hX
  go_upto_region 23 with fail
  obtain ⟨W3, hW⟩ : ∃ W, W = w3.alloc (.cells #[.int .i64 5, .int .i64 5, .int .i64 5, .int .i64 1099511627776, .int .i64 1, .int .i64 0, .int .i64 0, .int .i64 0] 27) := ⟨_, rfl⟩
  have hX : Below w3.heap.size w3 W3 := by rw [hW]; exact (Below.refl _ _).alloc (Nat.le_refl _) _
  have hT : W3.heap[w3.heap.size]? = some (.cells (bk s2M s2U) 27 (0, 0)) := by rw [hW]; exact World.alloc_heap_new _ _
  rw [← hW]
  have HT12 := Hd.mk hT
  clear hW hT
  have HB_c3 := Hd.mk (ch4 HB_3.out hX)
  have HT11_c3 := Hd.mk (keep HT11_3.out hX)
  clear HB_3 HT11_3
  clear hX
  obtain ⟨c0, c1, c2, c3, c4, c5, c6, c7⟩ := lit8 HT11_c3.out
  go_wp2_with fail
  refine (tells_any M N _ [((k : Int), 1), ((k : Int), (-1))] _ _ _ (srcLit W3 [((k : Int), 1), ((k : Int), (-1))] (by simp))).mono ?_
  rintro e w4 ⟨rfl, hB⟩
  have hX := ((Below.refl W3.heap.size W3).alloc (Nat.le_refl _) (.cells #[.int .i64 (k : Int), .int .i64 1, .int .i64 (k : Int), .int .i64 (-1)] 32)).trans (hB.mono (by simp))
  have HB_4 := Hd.mk (ch4 HB_c3.out hX)
  have HT11_4 := Hd.mk (keep HT11_c3.out hX)
  have HT12_4 := Hd.mk (keep HT12.out hX)
  clear HB_c3 HT11_c3 HT12
  clear hB hX
  clear c0 c1 c2 c3 c4 c5 c6 c7
  obtain ⟨c0, c1, c2, c3, c4, c5, c6, c7⟩ := lit8 HT12_4.out
  go_wp2_with fail
  refine (tells_any s2M s2U _ [((k : Int), p), ((k : Int), q), (3, q)] _ _ _ (srcLit w4 [((k : Int), p), ((k : Int), q), (3, q)] (by simp))).mono ?_
  rintro e w5 ⟨rfl, hB⟩
  have hX := ((Below.refl w4.heap.size w4).alloc (Nat.le_refl _) (.cells #[.int .i64 (k : Int), .int .i64 p, .int .i64 (k : Int), .int .i64 q, .int .i64 3, .int .i64 q] 32)).trans (hB.mono (by simp))
  have HB_5 := Hd.mk (ch4 HB_4.out hX)
  have HT11_5 := Hd.mk (keep HT11_4.out hX)
  have HT12_5 := Hd.mk (keep HT12_4.out hX)
  clear HB_4 HT11_4 HT12_4
  clear hB hX
  clear c0 c1 c2 c3 c4 c5 c6 c7
  obtain ⟨c0, c1, c2, c3, c4, c5, c6, c7⟩ := lit8 HT12_5.out
  go_wp2_with fail
  refine (tells_any s2M s2U _ [(p, 1)] _ _ _ (srcLit w5 [(p, 1)] (by simp))).mono ?_
  rintro e w6 ⟨rfl, hB⟩
  have hX := ((Below.refl w5.heap.size w5).alloc (Nat.le_refl _) (.cells #[.int .i64 p, .int .i64 1] 32)).trans (hB.mono (by simp))
  have HB_6 := Hd.mk (ch4 HB_5.out hX)
  have HT11_6 := Hd.mk (keep HT11_5.out hX)
  have HT12_6 := Hd.mk (keep HT12_5.out hX)
  clear HB_5 HT11_5 HT12_5
  clear hB hX
  clear c0 c1 c2 c3 c4 c5 c6 c7
  go_wp2_with fail
  exact HQ.out _ HB_6.out
end Go.Proofs.Ytppfhcocmpmadaa
