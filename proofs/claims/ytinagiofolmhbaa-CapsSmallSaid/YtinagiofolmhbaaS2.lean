/- The law CapsSmall: one script (a region that draws its order). -/
import Derived.Test.YtinagiofolmhbaaS1
namespace Go.Proofs.Ytinagiofolmhbaa
open Go.RowKit
set_option linter.unusedVariables false
set_option linter.unusedSimpArgs false


def regOf (n : Nat) : Code → Option Code
  | .region id ops b => if id = n then some (.region id ops b) else none
  | .seq a b => match regOf n a with
    | some c => some c
    | none => regOf n b
  | .block _ c => regOf n c
  | .loop c => regOf n c
  | .scope c => regOf n c
  | .cond _ a b => match regOf n a with
    | some c => some c
    | none => regOf n b
  | _ => none
/-- A literal slice of structs, out of its block. -/
theorem srcN_box {α : Type} (L : Lays α) {W : World} {b e : Nat} (xs : List α) {cs : Array Value} (h : W.heap[b]? = some (.cells cs e (0, 0))) (hc : cs = (flatN L xs).toArray) (hm : xs.length ≤ 100000) : SrcN L W (.slice (some ⟨b, 0, none⟩) xs.length xs.length) xs :=
  .inr ⟨b, 0, xs.length, rfl, Nat.le_refl _, by simp only [maxLen]; omega, lt_heap h, fun j hj r u hr => by
    have hrs : r < L.sz := by rw [← L.len xs[j]]; exact (List.getElem?_eq_some_iff.1 hr).1
    rw [cells_cell h, Nat.zero_add, hc, List.getElem?_toArray]
    exact (flatN_get L xs j hj r hrs).trans hr⟩
def lit11 : Array Value := #[.int .u8 0, .int .i64 0, .int .i64 1, .int .i64 0, .int .u8 15, .int .u8 0, .int .i64 0, .int .i64 2, .int .i64 1, .int .u8 5, .int .u8 2, .int .i64 1, .int .i64 0, .int .i64 1, .int .u8 7, .int .u8 2, .int .i64 2, .int .i64 0, .int .i64 2, .int .u8 5, .int .u8 2, .int .i64 3, .int .i64 0, .int .i64 1, .int .u8 4, .int .u8 2, .int .i64 2, .int .i64 0, .int .i64 0, .int .u8 3, .int .u8 5, .int .i64 1, .int .i64 0, .int .i64 0, .int .u8 0, .int .u8 5, .int .i64 2, .int .i64 0, .int .i64 0, .int .u8 0, .int .u8 5, .int .i64 3, .int .i64 0, .int .i64 0, .int .u8 0, .int .u8 7, .int .i64 0, .int .i64 1, .int .i64 0, .int .u8 0, .int .u8 7, .int .i64 0, .int .i64 2, .int .i64 0, .int .u8 0]
theorem lit11_at : ∀ k, k < 11 → ∃ (p : BitVec 8) (q r s : Int) (t : BitVec 8), (0 ≤ q ∧ q < 256) ∧ lit11[k * 5]? = some (h8 p) ∧ lit11[k * 5 + 1]? = some (.int .i64 q) ∧ lit11[k * 5 + 2]? = some (.int .i64 r) ∧ lit11[k * 5 + 3]? = some (.int .i64 s) ∧ lit11[k * 5 + 4]? = some (h8 t)
  | 0, _ => ⟨0#8, 0, 1, 0, 15#8, by decide, rfl, rfl, rfl, rfl, rfl⟩
  | 1, _ => ⟨0#8, 0, 2, 1, 5#8, by decide, rfl, rfl, rfl, rfl, rfl⟩
  | 2, _ => ⟨2#8, 1, 0, 1, 7#8, by decide, rfl, rfl, rfl, rfl, rfl⟩
  | 3, _ => ⟨2#8, 2, 0, 2, 5#8, by decide, rfl, rfl, rfl, rfl, rfl⟩
  | 4, _ => ⟨2#8, 3, 0, 1, 4#8, by decide, rfl, rfl, rfl, rfl, rfl⟩
  | 5, _ => ⟨2#8, 2, 0, 0, 3#8, by decide, rfl, rfl, rfl, rfl, rfl⟩
  | 6, _ => ⟨5#8, 1, 0, 0, 0#8, by decide, rfl, rfl, rfl, rfl, rfl⟩
  | 7, _ => ⟨5#8, 2, 0, 0, 0#8, by decide, rfl, rfl, rfl, rfl, rfl⟩
  | 8, _ => ⟨5#8, 3, 0, 0, 0#8, by decide, rfl, rfl, rfl, rfl, rfl⟩
  | 9, _ => ⟨7#8, 0, 1, 0, 0#8, by decide, rfl, rfl, rfl, rfl, rfl⟩
  | 10, _ => ⟨7#8, 0, 2, 0, 0#8, by decide, rfl, rfl, rfl, rfl, rfl⟩
  | _ + 11, h => absurd h (by omega)
noncomputable def piece5 : Code := ((Try.f9.body.bind (regOf 5)).getD .skip)

set_option maxRecDepth 1000000 in
set_option maxHeartbeats 8000000 in
theorem r5 (base : World) (B n : Nat) (hB0 : base.heap[B]? = some (.cells lit11 65 (0, 0))) (hn : n < 14641) (Q : Exit → Act → World → Prop) (hP : ∀ c (a : Act) (t : Tmp) v w, Q (.panic c) (a.put (some t) v) w → Q (.panic c) a w)
    {c0 c3 c4 c5 c6 c7 c8 c9 c10 c11 c12 c13 c14 c15 c16 c17 c18 c19 c20 c21 c22 c23 c24 c25 c26 c27 c28 c29 c30 c31 c32 c33 c34 c35 c36 c37 c38 c39 c40 c41 c42 c43 c44 c45 c46 c47 c48 c49 c50 c51 c52 c53 c54 c55 c56 c57 c58 c59 c60 c61 c62 c63 c64 c65 c66 c67 c68 c69 c70 c71 c72 c73 c74 c75 c76 c77 c78 c79 c80 c81 c82 c83 c84 c85 c86 c87 c88 c89 c90 c91 c92 c93 c94 c95 c96 c97 c98 c99 c100 c101 c102 c103 c104 c105 c106 c107 c108 c109 c110 c111 c112 c113 c114 c115 c116 c117 c118 c119 c120 c121 c122 c123 c124 c125 c126 c127 c128 c129 c130 c131 c132 c133 c134 c135 c136 c137 c138 c139 c140 c141 c142 c143 c144 c145 c146 c147 c148 c149 c150 c151 c152 c153 c154 c155 c156 c157 c158 c159 c160 c161 c162 c163 c164 c165 c166 c167 c168 c169 c170 c171 c172 c173 c174 c175 c176 c177 c178 c179 c180 c181 c182 c183 c184 c185 c186 c187 c188 c189 c190 c191 c192 c193 c194 c195 c196 c197 c198 c199 c200 c201 c202 c203 c204 c205 c206 c207 c208 c209 c210 c211 c212 c213 c214 c215 c216 c217 c218 c219 c220 c221 c222 c223 c224 c225 c226 c227 c228 c229 c230 c231 c232 c233 c234 c235 c236 c237 c238 c239 c240 c241 c242 c243 c244 c245 c246 c247 c248 c249 c250 c251 c252 c253 c254 c255 c256 c257 c258 c259 c260 c261 c262 c263 c264 c265 c266 c267 c268 c269 c270 c271 c272 c273 c274 c275 c276 c277 c278 c279 c280 c281 c282 c283 c284 c285 c286 c287 c288 c289 c290 c291 c292 c293 c294 c295 c296 c297 c298 c299 c300 c301 c302 c303 c304 c305 c306 c307 c308 c309 c310 c311 c312 c313 c314 c315 c316 c317 c318 c319 c320 c321 c322 c323 c324 c325 c326 c327 c328 c329 c330 c331 c332 c333 c334 c335 c336 c337 c338 c339 c340 c341 c342 c343 c344 c345 c346 c347 : Value}
    (hQ : ∀ (d55 d56 d57 d58 d59 d60 d61 d62 d63 d64 d65 d66 d67 d68 d69 d70 d71 d72 d73 d74 d75 d76 d77 d78 d79 d80 d81 : Value) (w : World), Below base.heap.size base w → Q .normal ⟨#[c0, .slice (some ⟨B, 0, none⟩) 11 11, .int .i64 (n : Int), c3, c4, c5, c6, c7, c8, c9, c10, c11, c12, c13, c14, c15, c16, c17, c18, c19, c20, c21, c22, c23, c24, c25, c26, c27, c28, c29, c30, c31, c32, c33, c34, c35, c36, c37, c38, c39, c40, c41, c42, c43, c44, c45, c46, c47, c48, c49, c50, c51, c52, c53, c54, d55, d56, d57, d58, d59, d60, d61, d62, d63, d64, d65, d66, d67, d68, d69, d70, d71, d72, d73, d74, d75, d76, d77, d78, d79, d80, d81, .bool false, c83, c84, c85, c86, c87, c88, c89, c90, c91, c92, c93, c94, c95, c96, c97, c98, c99, c100, c101, c102, c103, c104, c105, c106, c107, c108, c109, c110, c111, c112, c113, c114, c115, c116, c117, c118, c119, c120, c121, c122, c123, c124, c125, c126, c127, c128, c129, c130, c131, c132, c133, c134, c135, c136, c137, c138, c139, c140, c141, c142, c143, c144, c145, c146, c147, c148, c149, c150, c151, c152, c153, c154, c155, c156, c157, c158, c159, c160, c161, c162, c163, c164, c165, c166, c167, c168, c169, c170, c171, c172, c173, c174, c175, c176, c177, c178, c179, c180, c181, c182, c183, c184, c185, c186, c187, c188, c189, c190, c191, c192, c193, c194, c195, c196, c197, c198, c199, c200, c201, c202, c203, c204, c205, c206, c207, c208, c209, c210, c211, c212, c213, c214, c215, c216, c217, c218, c219, c220, c221, c222, c223, c224, c225, c226, c227, c228, c229, c230, c231, c232, c233, c234, c235, c236, c237, c238, c239, c240, c241, c242, c243, c244, c245, c246, c247, c248, c249, c250, c251, c252, c253, c254, c255, c256, c257, c258, c259, c260, c261, c262, c263, c264, c265, c266, c267, c268, c269, c270, c271, c272, c273, c274, c275, c276, c277, c278, c279, c280, c281, c282, c283, c284, c285, c286, c287, c288, c289, c290, c291, c292, c293, c294, c295, c296, c297, c298, c299, c300, c301, c302, c303, c304, c305, c306, c307, c308, c309, c310, c311, c312, c313, c314, c315, c316, c317, c318, c319, c320, c321, c322, c323, c324, c325, c326, c327, c328, c329, c330, c331, c332, c333, c334, c335, c336, c337, c338, c339, c340, c341, c342, c343, c344, c345, c346, c347], []⟩ w) :
    Code.wp Try.prog piece5 Q ⟨#[c0, .slice (some ⟨B, 0, none⟩) 11 11, .int .i64 (n : Int), c3, c4, c5, c6, c7, c8, c9, c10, c11, c12, c13, c14, c15, c16, c17, c18, c19, c20, c21, c22, c23, c24, c25, c26, c27, c28, c29, c30, c31, c32, c33, c34, c35, c36, c37, c38, c39, c40, c41, c42, c43, c44, c45, c46, c47, c48, c49, c50, c51, c52, c53, c54, c55, c56, c57, c58, c59, c60, c61, c62, c63, c64, c65, c66, c67, c68, c69, c70, c71, c72, c73, c74, c75, c76, c77, c78, c79, c80, c81, c82, c83, c84, c85, c86, c87, c88, c89, c90, c91, c92, c93, c94, c95, c96, c97, c98, c99, c100, c101, c102, c103, c104, c105, c106, c107, c108, c109, c110, c111, c112, c113, c114, c115, c116, c117, c118, c119, c120, c121, c122, c123, c124, c125, c126, c127, c128, c129, c130, c131, c132, c133, c134, c135, c136, c137, c138, c139, c140, c141, c142, c143, c144, c145, c146, c147, c148, c149, c150, c151, c152, c153, c154, c155, c156, c157, c158, c159, c160, c161, c162, c163, c164, c165, c166, c167, c168, c169, c170, c171, c172, c173, c174, c175, c176, c177, c178, c179, c180, c181, c182, c183, c184, c185, c186, c187, c188, c189, c190, c191, c192, c193, c194, c195, c196, c197, c198, c199, c200, c201, c202, c203, c204, c205, c206, c207, c208, c209, c210, c211, c212, c213, c214, c215, c216, c217, c218, c219, c220, c221, c222, c223, c224, c225, c226, c227, c228, c229, c230, c231, c232, c233, c234, c235, c236, c237, c238, c239, c240, c241, c242, c243, c244, c245, c246, c247, c248, c249, c250, c251, c252, c253, c254, c255, c256, c257, c258, c259, c260, c261, c262, c263, c264, c265, c266, c267, c268, c269, c270, c271, c272, c273, c274, c275, c276, c277, c278, c279, c280, c281, c282, c283, c284, c285, c286, c287, c288, c289, c290, c291, c292, c293, c294, c295, c296, c297, c298, c299, c300, c301, c302, c303, c304, c305, c306, c307, c308, c309, c310, c311, c312, c313, c314, c315, c316, c317, c318, c319, c320, c321, c322, c323, c324, c325, c326, c327, c328, c329, c330, c331, c332, c333, c334, c335, c336, c337, c338, c339, c340, c341, c342, c343, c344, c345, c346, c347], []⟩ base := by
  have HQ := Hd.mk hQ
  clear hQ
  obtain ⟨i1, hi1⟩ : ∃ d, n % 11 = d := ⟨_, rfl⟩
  obtain ⟨j2, hj2⟩ : ∃ d, n / 11 = d := ⟨_, rfl⟩
  obtain ⟨i2, hi2⟩ : ∃ d, j2 % 11 = d := ⟨_, rfl⟩
  obtain ⟨j3, hj3⟩ : ∃ d, n / 121 = d := ⟨_, rfl⟩
  obtain ⟨i3, hi3⟩ : ∃ d, j3 % 11 = d := ⟨_, rfl⟩
  obtain ⟨i4, hi4⟩ : ∃ d, n / 1331 = d := ⟨_, rfl⟩
  have r_i1 : Int.tmod (n : Int) 11 = (i1 : Int) := by rw [Int.tmod_eq_emod_of_nonneg (by omega)]; omega
  have e_i1 : (n : Int) % 11 = (i1 : Int) := by omega
  have w_i1 : IntKind.i64.wrap (i1 : Int) = (i1 : Int) := IntWalk.i64_in _ ⟨by omega, by omega⟩
  have r_i2 : Int.tmod (j2 : Int) 11 = (i2 : Int) := by rw [Int.tmod_eq_emod_of_nonneg (by omega)]; omega
  have e_i2 : (j2 : Int) % 11 = (i2 : Int) := by omega
  have w_i2 : IntKind.i64.wrap (i2 : Int) = (i2 : Int) := IntWalk.i64_in _ ⟨by omega, by omega⟩
  have r_i3 : Int.tmod (j3 : Int) 11 = (i3 : Int) := by rw [Int.tmod_eq_emod_of_nonneg (by omega)]; omega
  have e_i3 : (j3 : Int) % 11 = (i3 : Int) := by omega
  have w_i3 : IntKind.i64.wrap (i3 : Int) = (i3 : Int) := IntWalk.i64_in _ ⟨by omega, by omega⟩
  have t_j2 : Int.tdiv (n : Int) 11 = (j2 : Int) := by rw [Int.tdiv_eq_ediv_of_nonneg (by omega)]; omega
  have f_j2 : (n : Int) / 11 = (j2 : Int) := by omega
  have w_j2 : IntKind.i64.wrap (j2 : Int) = (j2 : Int) := IntWalk.i64_in _ ⟨by omega, by omega⟩
  have t_j3 : Int.tdiv (n : Int) 121 = (j3 : Int) := by rw [Int.tdiv_eq_ediv_of_nonneg (by omega)]; omega
  have f_j3 : (n : Int) / 121 = (j3 : Int) := by omega
  have w_j3 : IntKind.i64.wrap (j3 : Int) = (j3 : Int) := IntWalk.i64_in _ ⟨by omega, by omega⟩
  have t_i4 : Int.tdiv (n : Int) 1331 = (i4 : Int) := by rw [Int.tdiv_eq_ediv_of_nonneg (by omega)]; omega
  have f_i4 : (n : Int) / 1331 = (i4 : Int) := by omega
  have w_i4 : IntKind.i64.wrap (i4 : Int) = (i4 : Int) := IntWalk.i64_in _ ⟨by omega, by omega⟩
  have l1 : i1 < 11 := by omega
  have l2 : i2 < 11 := by omega
  have l3 : i3 < 11 := by omega
  have l4 : i4 < 11 := by omega
  obtain ⟨p0, q0, s0, u0, t0, pa0, x00, x01, x02, x03, x04⟩ := lit11_at 0 (by omega)
  rw [← cells_cell hB0 (0 * 5)] at x00
  rw [← cells_cell hB0 (0 * 5 + 1)] at x01
  rw [← cells_cell hB0 (0 * 5 + 2)] at x02
  rw [← cells_cell hB0 (0 * 5 + 3)] at x03
  rw [← cells_cell hB0 (0 * 5 + 4)] at x04
  obtain ⟨p1, q1, s1, u1, t1, pa1, x10, x11, x12, x13, x14⟩ := lit11_at i1 (by omega)
  rw [← cells_cell hB0 (i1 * 5)] at x10
  rw [← cells_cell hB0 (i1 * 5 + 1)] at x11
  rw [← cells_cell hB0 (i1 * 5 + 2)] at x12
  rw [← cells_cell hB0 (i1 * 5 + 3)] at x13
  rw [← cells_cell hB0 (i1 * 5 + 4)] at x14
  obtain ⟨p2, q2, s2, u2, t2, pa2, x20, x21, x22, x23, x24⟩ := lit11_at i2 (by omega)
  rw [← cells_cell hB0 (i2 * 5)] at x20
  rw [← cells_cell hB0 (i2 * 5 + 1)] at x21
  rw [← cells_cell hB0 (i2 * 5 + 2)] at x22
  rw [← cells_cell hB0 (i2 * 5 + 3)] at x23
  rw [← cells_cell hB0 (i2 * 5 + 4)] at x24
  obtain ⟨p3, q3, s3, u3, t3, pa3, x30, x31, x32, x33, x34⟩ := lit11_at i3 (by omega)
  rw [← cells_cell hB0 (i3 * 5)] at x30
  rw [← cells_cell hB0 (i3 * 5 + 1)] at x31
  rw [← cells_cell hB0 (i3 * 5 + 2)] at x32
  rw [← cells_cell hB0 (i3 * 5 + 3)] at x33
  rw [← cells_cell hB0 (i3 * 5 + 4)] at x34
  obtain ⟨p4, q4, s4, u4, t4, pa4, x40, x41, x42, x43, x44⟩ := lit11_at i4 (by omega)
  rw [← cells_cell hB0 (i4 * 5)] at x40
  rw [← cells_cell hB0 (i4 * 5 + 1)] at x41
  rw [← cells_cell hB0 (i4 * 5 + 2)] at x42
  rw [← cells_cell hB0 (i4 * 5 + 3)] at x43
  rw [← cells_cell hB0 (i4 * 5 + 4)] at x44
  have m1 : (i1 : Int) < 11 := by omega
  have o1 : (0 : Int) ≤ (i1 : Int) := by omega
  have m2 : (i2 : Int) < 11 := by omega
  have o2 : (0 : Int) ≤ (i2 : Int) := by omega
  have m3 : (i3 : Int) < 11 := by omega
  have o3 : (0 : Int) ≤ (i3 : Int) := by omega
  have m4 : (i4 : Int) < 11 := by omega
  have o4 : (0 : Int) ≤ (i4 : Int) := by omega
  have HKA : Hd (∀ a ∈ [(⟨p0, q0, s0, u0, t0⟩ : Ac), (⟨p1, q1, s1, u1, t1⟩ : Ac), (⟨p2, q2, s2, u2, t2⟩ : Ac), (⟨p3, q3, s3, u3, t3⟩ : Ac), (⟨p4, q4, s4, u4, t4⟩ : Ac)], -9223372036854775808 ≤ a.ser ∧ a.ser ≤ 9223372036854775807) := ⟨by
    intro a ha
    simp only [List.mem_cons, List.not_mem_nil, or_false] at ha
    rcases ha with rfl | rfl | rfl | rfl | rfl <;> simp only <;> omega⟩
  have hBl : B < base.heap.size := lt_heap hB0
  simp only [Nat.zero_mul, Nat.zero_add] at x00
  simp only [Nat.zero_mul, Nat.zero_add] at x01
  simp only [Nat.zero_mul, Nat.zero_add] at x02
  simp only [Nat.zero_mul, Nat.zero_add] at x03
  simp only [Nat.zero_mul, Nat.zero_add] at x04
  have hS0 : Below base.heap.size base base.drew ∧ base.drew.cell? ⟨B, 0, none⟩ = some (h8 p0) ∧ base.drew.cell? ⟨B, 1, none⟩ = some (.int .i64 q0) ∧ base.drew.cell? ⟨B, 2, none⟩ = some (.int .i64 s0) ∧ base.drew.cell? ⟨B, 3, none⟩ = some (.int .i64 u0) ∧ base.drew.cell? ⟨B, 4, none⟩ = some (h8 t0) ∧ base.drew.cell? ⟨B, i1 * 5, none⟩ = some (h8 p1) ∧ base.drew.cell? ⟨B, i1 * 5 + 1, none⟩ = some (.int .i64 q1) ∧ base.drew.cell? ⟨B, i1 * 5 + 2, none⟩ = some (.int .i64 s1) ∧ base.drew.cell? ⟨B, i1 * 5 + 3, none⟩ = some (.int .i64 u1) ∧ base.drew.cell? ⟨B, i1 * 5 + 4, none⟩ = some (h8 t1) ∧ base.drew.cell? ⟨B, i2 * 5, none⟩ = some (h8 p2) ∧ base.drew.cell? ⟨B, i2 * 5 + 1, none⟩ = some (.int .i64 q2) ∧ base.drew.cell? ⟨B, i2 * 5 + 2, none⟩ = some (.int .i64 s2) ∧ base.drew.cell? ⟨B, i2 * 5 + 3, none⟩ = some (.int .i64 u2) ∧ base.drew.cell? ⟨B, i2 * 5 + 4, none⟩ = some (h8 t2) ∧ base.drew.cell? ⟨B, i3 * 5, none⟩ = some (h8 p3) ∧ base.drew.cell? ⟨B, i3 * 5 + 1, none⟩ = some (.int .i64 q3) ∧ base.drew.cell? ⟨B, i3 * 5 + 2, none⟩ = some (.int .i64 s3) ∧ base.drew.cell? ⟨B, i3 * 5 + 3, none⟩ = some (.int .i64 u3) ∧ base.drew.cell? ⟨B, i3 * 5 + 4, none⟩ = some (h8 t3) ∧ base.drew.cell? ⟨B, i4 * 5, none⟩ = some (h8 p4) ∧ base.drew.cell? ⟨B, i4 * 5 + 1, none⟩ = some (.int .i64 q4) ∧ base.drew.cell? ⟨B, i4 * 5 + 2, none⟩ = some (.int .i64 s4) ∧ base.drew.cell? ⟨B, i4 * 5 + 3, none⟩ = some (.int .i64 u4) ∧ base.drew.cell? ⟨B, i4 * 5 + 4, none⟩ = some (h8 t4) := ⟨(Below.refl _ _).drew, x00, x01, x02, x03, x04, x10, x11, x12, x13, x14, x20, x21, x22, x23, x24, x30, x31, x32, x33, x34, x40, x41, x42, x43, x44⟩
  clear hi1 hj2 hi2 hj3 hi3 hi4 l1 l2 l3 l4 hn hB0 x00 x01 x02 x03 x04 x10 x11 x12 x13 x14 x20 x21 x22 x23 x24 x30 x31 x32 x33 x34 x40 x41 x42 x43 x44 pa0 pa1 pa2 pa3 pa4
  have HS0 := Hd.mk hS0
  clear hS0
  refine wp_region_held_drew (S := fun W => Below base.heap.size base W ∧ W.cell? ⟨B, 0, none⟩ = some (h8 p0) ∧ W.cell? ⟨B, 1, none⟩ = some (.int .i64 q0) ∧ W.cell? ⟨B, 2, none⟩ = some (.int .i64 s0) ∧ W.cell? ⟨B, 3, none⟩ = some (.int .i64 u0) ∧ W.cell? ⟨B, 4, none⟩ = some (h8 t0) ∧ W.cell? ⟨B, i1 * 5, none⟩ = some (h8 p1) ∧ W.cell? ⟨B, i1 * 5 + 1, none⟩ = some (.int .i64 q1) ∧ W.cell? ⟨B, i1 * 5 + 2, none⟩ = some (.int .i64 s1) ∧ W.cell? ⟨B, i1 * 5 + 3, none⟩ = some (.int .i64 u1) ∧ W.cell? ⟨B, i1 * 5 + 4, none⟩ = some (h8 t1) ∧ W.cell? ⟨B, i2 * 5, none⟩ = some (h8 p2) ∧ W.cell? ⟨B, i2 * 5 + 1, none⟩ = some (.int .i64 q2) ∧ W.cell? ⟨B, i2 * 5 + 2, none⟩ = some (.int .i64 s2) ∧ W.cell? ⟨B, i2 * 5 + 3, none⟩ = some (.int .i64 u2) ∧ W.cell? ⟨B, i2 * 5 + 4, none⟩ = some (h8 t2) ∧ W.cell? ⟨B, i3 * 5, none⟩ = some (h8 p3) ∧ W.cell? ⟨B, i3 * 5 + 1, none⟩ = some (.int .i64 q3) ∧ W.cell? ⟨B, i3 * 5 + 2, none⟩ = some (.int .i64 s3) ∧ W.cell? ⟨B, i3 * 5 + 3, none⟩ = some (.int .i64 u3) ∧ W.cell? ⟨B, i3 * 5 + 4, none⟩ = some (h8 t3) ∧ W.cell? ⟨B, i4 * 5, none⟩ = some (h8 p4) ∧ W.cell? ⟨B, i4 * 5 + 1, none⟩ = some (.int .i64 q4) ∧ W.cell? ⟨B, i4 * 5 + 2, none⟩ = some (.int .i64 s4) ∧ W.cell? ⟨B, i4 * 5 + 3, none⟩ = some (.int .i64 u4) ∧ W.cell? ⟨B, i4 * 5 + 4, none⟩ = some (h8 t4)) (by kernel_rfl) HS0.out (fun hS_ => ?_)
  try dsimp only at hS_
  refine takeW 0 ?_ rfl (by kernel_rfl) (by kernel_rfl) (by kernel_rfl) (fun c a w h => hP c a _ _ w h) (by rfl) ?_ hS_ ?_
  rotate_left
  · intro w hSw
    try dsimp only at hSw
    go_simp
    with_reducible rfl
  try simp only [Act.put, List.setIfInBounds_toArray, List.set_cons_zero, List.set_cons_succ]
  refine takeW 1 ?_ rfl (by kernel_rfl) (by kernel_rfl) (by kernel_rfl) (fun c a w h => hP c a _ _ w h) (by rfl) ?_ hS_ ?_
  rotate_left
  · intro w hSw
    try dsimp only at hSw
    go_simp
    with_reducible rfl
  try simp only [Act.put, List.setIfInBounds_toArray, List.set_cons_zero, List.set_cons_succ]
  refine takeW 2 ?_ rfl (by kernel_rfl) (by kernel_rfl) (by kernel_rfl) (fun c a w h => hP c a _ _ w h) (by rfl) ?_ hS_ ?_
  rotate_left
  · intro w hSw
    try dsimp only at hSw
    go_simp
    with_reducible rfl
  try simp only [Act.put, List.setIfInBounds_toArray, List.set_cons_zero, List.set_cons_succ]
  refine takeW 3 ?_ rfl (by kernel_rfl) (by kernel_rfl) (by kernel_rfl) (fun c a w h => hP c a _ _ w h) (by rfl) ?_ hS_ ?_
  rotate_left
  · intro w hSw
    try dsimp only at hSw
    go_simp
    with_reducible rfl
  try simp only [Act.put, List.setIfInBounds_toArray, List.set_cons_zero, List.set_cons_succ]
  refine takeW 4 ?_ rfl (by kernel_rfl) (by kernel_rfl) (by kernel_rfl) (fun c a w h => hP c a _ _ w h) (by rfl) ?_ hS_ ?_
  rotate_left
  · intro w hSw
    try dsimp only at hSw
    go_simp
    with_reducible rfl
  try simp only [Act.put, List.setIfInBounds_toArray, List.set_cons_zero, List.set_cons_succ]
  refine takeW 5 ?_ rfl (by kernel_rfl) (by kernel_rfl) (by kernel_rfl) (fun c a w h => hP c a _ _ w h) (by rfl) ?_ hS_ ?_
  rotate_left
  · intro w hSw
    try dsimp only at hSw
    go_simp
    with_reducible rfl
  try simp only [Act.put, List.setIfInBounds_toArray, List.set_cons_zero, List.set_cons_succ]
  refine takeW 6 ?_ rfl (by kernel_rfl) (by kernel_rfl) (by kernel_rfl) (fun c a w h => hP c a _ _ w h) (by rfl) ?_ hS_ ?_
  rotate_left
  · intro w hSw
    try dsimp only at hSw
    go_simp
    with_reducible rfl
  try simp only [Act.put, List.setIfInBounds_toArray, List.set_cons_zero, List.set_cons_succ]
  refine takeW 7 ?_ rfl (by kernel_rfl) (by kernel_rfl) (by kernel_rfl) (fun c a w h => hP c a _ _ w h) (by rfl) ?_ hS_ ?_
  rotate_left
  · intro w hSw
    try dsimp only at hSw
    go_simp
    with_reducible rfl
  try simp only [Act.put, List.setIfInBounds_toArray, List.set_cons_zero, List.set_cons_succ]
  refine takeW 8 ?_ rfl (by kernel_rfl) (by kernel_rfl) (by kernel_rfl) (fun c a w h => hP c a _ _ w h) (by rfl) ?_ hS_ ?_
  rotate_left
  · intro w hSw
    try dsimp only at hSw
    go_simp
    with_reducible rfl
  try simp only [Act.put, List.setIfInBounds_toArray, List.set_cons_zero, List.set_cons_succ]
  refine takeW 9 ?_ rfl (by kernel_rfl) (by kernel_rfl) (by kernel_rfl) (fun c a w h => hP c a _ _ w h) (by rfl) ?_ hS_ ?_
  rotate_left
  · intro w hSw
    try dsimp only at hSw
    go_simp
    with_reducible rfl
  try simp only [Act.put, List.setIfInBounds_toArray, List.set_cons_zero, List.set_cons_succ]
  refine takeW 10 ?_ rfl (by kernel_rfl) (by kernel_rfl) (by kernel_rfl) (fun c a w h => hP c a _ _ w h) (by rfl) ?_ hS_ ?_
  rotate_left
  · intro w hSw
    try dsimp only at hSw
    go_simp
    with_reducible rfl
  try simp only [Act.put, List.setIfInBounds_toArray, List.set_cons_zero, List.set_cons_succ]
  refine takeW 11 ?_ rfl (by kernel_rfl) (by kernel_rfl) (by kernel_rfl) (fun c a w h => hP c a _ _ w h) (by rfl) ?_ hS_ ?_
  rotate_left
  · intro w hSw
    try dsimp only at hSw
    go_simp
    with_reducible rfl
  try simp only [Act.put, List.setIfInBounds_toArray, List.set_cons_zero, List.set_cons_succ]
  refine takeW 12 ?_ rfl (by kernel_rfl) (by kernel_rfl) (by kernel_rfl) (fun c a w h => hP c a _ _ w h) (by rfl) ?_ hS_ ?_
  rotate_left
  · intro w hSw
    try dsimp only at hSw
    go_simp
    with_reducible rfl
  try simp only [Act.put, List.setIfInBounds_toArray, List.set_cons_zero, List.set_cons_succ]
  refine takeW 13 ?_ rfl (by kernel_rfl) (by kernel_rfl) (by kernel_rfl) (fun c a w h => hP c a _ _ w h) (by rfl) ?_ hS_ ?_
  rotate_left
  · intro w hSw
    try dsimp only at hSw
    go_simp
    with_reducible rfl
  try simp only [Act.put, List.setIfInBounds_toArray, List.set_cons_zero, List.set_cons_succ]
  refine takeW 14 ?_ rfl (by kernel_rfl) (by kernel_rfl) (by kernel_rfl) (fun c a w h => hP c a _ _ w h) (by rfl) ?_ hS_ ?_
  rotate_left
  · intro w hSw
    try dsimp only at hSw
    go_simp
    with_reducible rfl
  try simp only [Act.put, List.setIfInBounds_toArray, List.set_cons_zero, List.set_cons_succ]
  refine takeW 15 ?_ rfl (by kernel_rfl) (by kernel_rfl) (by kernel_rfl) (fun c a w h => hP c a _ _ w h) (by rfl) ?_ hS_ ?_
  rotate_left
  · intro w hSw
    try dsimp only at hSw
    go_simp
    with_reducible rfl
  try simp only [Act.put, List.setIfInBounds_toArray, List.set_cons_zero, List.set_cons_succ]
  refine takeW 16 ?_ rfl (by kernel_rfl) (by kernel_rfl) (by kernel_rfl) (fun c a w h => hP c a _ _ w h) (by rfl) ?_ hS_ ?_
  rotate_left
  · intro w hSw
    try dsimp only at hSw
    go_simp
    with_reducible rfl
  try simp only [Act.put, List.setIfInBounds_toArray, List.set_cons_zero, List.set_cons_succ]
  refine takeW 17 ?_ rfl (by kernel_rfl) (by kernel_rfl) (by kernel_rfl) (fun c a w h => hP c a _ _ w h) (by rfl) ?_ hS_ ?_
  rotate_left
  · intro w hSw
    try dsimp only at hSw
    go_simp
    with_reducible rfl
  try simp only [Act.put, List.setIfInBounds_toArray, List.set_cons_zero, List.set_cons_succ]
  refine takeW 18 ?_ rfl (by kernel_rfl) (by kernel_rfl) (by kernel_rfl) (fun c a w h => hP c a _ _ w h) (by rfl) ?_ hS_ ?_
  rotate_left
  · intro w hSw
    try dsimp only at hSw
    go_simp
    with_reducible rfl
  try simp only [Act.put, List.setIfInBounds_toArray, List.set_cons_zero, List.set_cons_succ]
  refine takeW 19 ?_ rfl (by kernel_rfl) (by kernel_rfl) (by kernel_rfl) (fun c a w h => hP c a _ _ w h) (by rfl) ?_ hS_ ?_
  rotate_left
  · intro w hSw
    try dsimp only at hSw
    go_simp
    with_reducible rfl
  try simp only [Act.put, List.setIfInBounds_toArray, List.set_cons_zero, List.set_cons_succ]
  refine takeW 20 ?_ rfl (by kernel_rfl) (by kernel_rfl) (by kernel_rfl) (fun c a w h => hP c a _ _ w h) (by rfl) ?_ hS_ ?_
  rotate_left
  · intro w hSw
    try dsimp only at hSw
    go_simp
    with_reducible rfl
  try simp only [Act.put, List.setIfInBounds_toArray, List.set_cons_zero, List.set_cons_succ]
  refine takeW 21 ?_ rfl (by kernel_rfl) (by kernel_rfl) (by kernel_rfl) (fun c a w h => hP c a _ _ w h) (by rfl) ?_ hS_ ?_
  rotate_left
  · intro w hSw
    try dsimp only at hSw
    go_simp
    with_reducible rfl
  try simp only [Act.put, List.setIfInBounds_toArray, List.set_cons_zero, List.set_cons_succ]
  refine takeW 22 ?_ rfl (by kernel_rfl) (by kernel_rfl) (by kernel_rfl) (fun c a w h => hP c a _ _ w h) (by rfl) ?_ hS_ ?_
  rotate_left
  · intro w hSw
    try dsimp only at hSw
    go_simp
    with_reducible rfl
  try simp only [Act.put, List.setIfInBounds_toArray, List.set_cons_zero, List.set_cons_succ]
  refine takeW 23 ?_ rfl (by kernel_rfl) (by kernel_rfl) (by kernel_rfl) (fun c a w h => hP c a _ _ w h) (by rfl) ?_ hS_ ?_
  rotate_left
  · intro w hSw
    try dsimp only at hSw
    go_simp
    with_reducible rfl
  try simp only [Act.put, List.setIfInBounds_toArray, List.set_cons_zero, List.set_cons_succ]
  refine takeW 24 ?_ rfl (by kernel_rfl) (by kernel_rfl) (by kernel_rfl) (fun c a w h => hP c a _ _ w h) (by rfl) ?_ hS_ ?_
  rotate_left
  · intro w hSw
    try dsimp only at hSw
    go_simp
    with_reducible rfl
  try simp only [Act.put, List.setIfInBounds_toArray, List.set_cons_zero, List.set_cons_succ]
  clear r_i1 e_i1 w_i1 r_i2 e_i2 w_i2 r_i3 e_i3 w_i3 t_j2 f_j2 w_j2 t_j3 f_j3 w_j3 t_i4 f_i4 w_i4 m1 o1 m2 o2 m3 o3 m4 o4
  obtain ⟨Wd, hWd⟩ : ∃ W, base.drew = W := ⟨_, rfl⟩
  rw [hWd] at hS_ ⊢
  clear hWd HS0
  refine wpAnyH_ready (rs := [25]) (by kernel_rfl) (by simp) (readyL rfl (fun K hK => ?_) AllReadyH.nil)
  go_simp
  have hA := (Below.refl Wd.heap.size Wd).alloc (Nat.le_refl _) (.cells #[h8 p0, .int .i64 q0, .int .i64 s0, .int .i64 u0, h8 t0, h8 p1, .int .i64 q1, .int .i64 s1, .int .i64 u1, h8 t1, h8 p2, .int .i64 q2, .int .i64 s2, .int .i64 u2, h8 t2, h8 p3, .int .i64 q3, .int .i64 s3, .int .i64 u3, h8 t3, h8 p4, .int .i64 q4, .int .i64 s4, .int .i64 u4, h8 t4] 65)
  have hx1 := heap_alloc_new Wd (.cells #[h8 p0, .int .i64 q0, .int .i64 s0, .int .i64 u0, h8 t0, h8 p1, .int .i64 q1, .int .i64 s1, .int .i64 u1, h8 t1, h8 p2, .int .i64 q2, .int .i64 s2, .int .i64 u2, h8 t2, h8 p3, .int .i64 q3, .int .i64 s3, .int .i64 u3, h8 t3, h8 p4, .int .i64 q4, .int .i64 s4, .int .i64 u4, h8 t4] 65)
  have hS1_ : Below base.heap.size base (Wd.alloc (.cells #[h8 p0, .int .i64 q0, .int .i64 s0, .int .i64 u0, h8 t0, h8 p1, .int .i64 q1, .int .i64 s1, .int .i64 u1, h8 t1, h8 p2, .int .i64 q2, .int .i64 s2, .int .i64 u2, h8 t2, h8 p3, .int .i64 q3, .int .i64 s3, .int .i64 u3, h8 t3, h8 p4, .int .i64 q4, .int .i64 s4, .int .i64 u4, h8 t4] 65)) ∧ (Wd.alloc (.cells #[h8 p0, .int .i64 q0, .int .i64 s0, .int .i64 u0, h8 t0, h8 p1, .int .i64 q1, .int .i64 s1, .int .i64 u1, h8 t1, h8 p2, .int .i64 q2, .int .i64 s2, .int .i64 u2, h8 t2, h8 p3, .int .i64 q3, .int .i64 s3, .int .i64 u3, h8 t3, h8 p4, .int .i64 q4, .int .i64 s4, .int .i64 u4, h8 t4] 65)).cell? ⟨B, 0, none⟩ = some (h8 p0) ∧ (Wd.alloc (.cells #[h8 p0, .int .i64 q0, .int .i64 s0, .int .i64 u0, h8 t0, h8 p1, .int .i64 q1, .int .i64 s1, .int .i64 u1, h8 t1, h8 p2, .int .i64 q2, .int .i64 s2, .int .i64 u2, h8 t2, h8 p3, .int .i64 q3, .int .i64 s3, .int .i64 u3, h8 t3, h8 p4, .int .i64 q4, .int .i64 s4, .int .i64 u4, h8 t4] 65)).cell? ⟨B, 1, none⟩ = some (.int .i64 q0) ∧ (Wd.alloc (.cells #[h8 p0, .int .i64 q0, .int .i64 s0, .int .i64 u0, h8 t0, h8 p1, .int .i64 q1, .int .i64 s1, .int .i64 u1, h8 t1, h8 p2, .int .i64 q2, .int .i64 s2, .int .i64 u2, h8 t2, h8 p3, .int .i64 q3, .int .i64 s3, .int .i64 u3, h8 t3, h8 p4, .int .i64 q4, .int .i64 s4, .int .i64 u4, h8 t4] 65)).cell? ⟨B, 2, none⟩ = some (.int .i64 s0) ∧ (Wd.alloc (.cells #[h8 p0, .int .i64 q0, .int .i64 s0, .int .i64 u0, h8 t0, h8 p1, .int .i64 q1, .int .i64 s1, .int .i64 u1, h8 t1, h8 p2, .int .i64 q2, .int .i64 s2, .int .i64 u2, h8 t2, h8 p3, .int .i64 q3, .int .i64 s3, .int .i64 u3, h8 t3, h8 p4, .int .i64 q4, .int .i64 s4, .int .i64 u4, h8 t4] 65)).cell? ⟨B, 3, none⟩ = some (.int .i64 u0) ∧ (Wd.alloc (.cells #[h8 p0, .int .i64 q0, .int .i64 s0, .int .i64 u0, h8 t0, h8 p1, .int .i64 q1, .int .i64 s1, .int .i64 u1, h8 t1, h8 p2, .int .i64 q2, .int .i64 s2, .int .i64 u2, h8 t2, h8 p3, .int .i64 q3, .int .i64 s3, .int .i64 u3, h8 t3, h8 p4, .int .i64 q4, .int .i64 s4, .int .i64 u4, h8 t4] 65)).cell? ⟨B, 4, none⟩ = some (h8 t0) ∧ (Wd.alloc (.cells #[h8 p0, .int .i64 q0, .int .i64 s0, .int .i64 u0, h8 t0, h8 p1, .int .i64 q1, .int .i64 s1, .int .i64 u1, h8 t1, h8 p2, .int .i64 q2, .int .i64 s2, .int .i64 u2, h8 t2, h8 p3, .int .i64 q3, .int .i64 s3, .int .i64 u3, h8 t3, h8 p4, .int .i64 q4, .int .i64 s4, .int .i64 u4, h8 t4] 65)).cell? ⟨B, i1 * 5, none⟩ = some (h8 p1) ∧ (Wd.alloc (.cells #[h8 p0, .int .i64 q0, .int .i64 s0, .int .i64 u0, h8 t0, h8 p1, .int .i64 q1, .int .i64 s1, .int .i64 u1, h8 t1, h8 p2, .int .i64 q2, .int .i64 s2, .int .i64 u2, h8 t2, h8 p3, .int .i64 q3, .int .i64 s3, .int .i64 u3, h8 t3, h8 p4, .int .i64 q4, .int .i64 s4, .int .i64 u4, h8 t4] 65)).cell? ⟨B, i1 * 5 + 1, none⟩ = some (.int .i64 q1) ∧ (Wd.alloc (.cells #[h8 p0, .int .i64 q0, .int .i64 s0, .int .i64 u0, h8 t0, h8 p1, .int .i64 q1, .int .i64 s1, .int .i64 u1, h8 t1, h8 p2, .int .i64 q2, .int .i64 s2, .int .i64 u2, h8 t2, h8 p3, .int .i64 q3, .int .i64 s3, .int .i64 u3, h8 t3, h8 p4, .int .i64 q4, .int .i64 s4, .int .i64 u4, h8 t4] 65)).cell? ⟨B, i1 * 5 + 2, none⟩ = some (.int .i64 s1) ∧ (Wd.alloc (.cells #[h8 p0, .int .i64 q0, .int .i64 s0, .int .i64 u0, h8 t0, h8 p1, .int .i64 q1, .int .i64 s1, .int .i64 u1, h8 t1, h8 p2, .int .i64 q2, .int .i64 s2, .int .i64 u2, h8 t2, h8 p3, .int .i64 q3, .int .i64 s3, .int .i64 u3, h8 t3, h8 p4, .int .i64 q4, .int .i64 s4, .int .i64 u4, h8 t4] 65)).cell? ⟨B, i1 * 5 + 3, none⟩ = some (.int .i64 u1) ∧ (Wd.alloc (.cells #[h8 p0, .int .i64 q0, .int .i64 s0, .int .i64 u0, h8 t0, h8 p1, .int .i64 q1, .int .i64 s1, .int .i64 u1, h8 t1, h8 p2, .int .i64 q2, .int .i64 s2, .int .i64 u2, h8 t2, h8 p3, .int .i64 q3, .int .i64 s3, .int .i64 u3, h8 t3, h8 p4, .int .i64 q4, .int .i64 s4, .int .i64 u4, h8 t4] 65)).cell? ⟨B, i1 * 5 + 4, none⟩ = some (h8 t1) ∧ (Wd.alloc (.cells #[h8 p0, .int .i64 q0, .int .i64 s0, .int .i64 u0, h8 t0, h8 p1, .int .i64 q1, .int .i64 s1, .int .i64 u1, h8 t1, h8 p2, .int .i64 q2, .int .i64 s2, .int .i64 u2, h8 t2, h8 p3, .int .i64 q3, .int .i64 s3, .int .i64 u3, h8 t3, h8 p4, .int .i64 q4, .int .i64 s4, .int .i64 u4, h8 t4] 65)).cell? ⟨B, i2 * 5, none⟩ = some (h8 p2) ∧ (Wd.alloc (.cells #[h8 p0, .int .i64 q0, .int .i64 s0, .int .i64 u0, h8 t0, h8 p1, .int .i64 q1, .int .i64 s1, .int .i64 u1, h8 t1, h8 p2, .int .i64 q2, .int .i64 s2, .int .i64 u2, h8 t2, h8 p3, .int .i64 q3, .int .i64 s3, .int .i64 u3, h8 t3, h8 p4, .int .i64 q4, .int .i64 s4, .int .i64 u4, h8 t4] 65)).cell? ⟨B, i2 * 5 + 1, none⟩ = some (.int .i64 q2) ∧ (Wd.alloc (.cells #[h8 p0, .int .i64 q0, .int .i64 s0, .int .i64 u0, h8 t0, h8 p1, .int .i64 q1, .int .i64 s1, .int .i64 u1, h8 t1, h8 p2, .int .i64 q2, .int .i64 s2, .int .i64 u2, h8 t2, h8 p3, .int .i64 q3, .int .i64 s3, .int .i64 u3, h8 t3, h8 p4, .int .i64 q4, .int .i64 s4, .int .i64 u4, h8 t4] 65)).cell? ⟨B, i2 * 5 + 2, none⟩ = some (.int .i64 s2) ∧ (Wd.alloc (.cells #[h8 p0, .int .i64 q0, .int .i64 s0, .int .i64 u0, h8 t0, h8 p1, .int .i64 q1, .int .i64 s1, .int .i64 u1, h8 t1, h8 p2, .int .i64 q2, .int .i64 s2, .int .i64 u2, h8 t2, h8 p3, .int .i64 q3, .int .i64 s3, .int .i64 u3, h8 t3, h8 p4, .int .i64 q4, .int .i64 s4, .int .i64 u4, h8 t4] 65)).cell? ⟨B, i2 * 5 + 3, none⟩ = some (.int .i64 u2) ∧ (Wd.alloc (.cells #[h8 p0, .int .i64 q0, .int .i64 s0, .int .i64 u0, h8 t0, h8 p1, .int .i64 q1, .int .i64 s1, .int .i64 u1, h8 t1, h8 p2, .int .i64 q2, .int .i64 s2, .int .i64 u2, h8 t2, h8 p3, .int .i64 q3, .int .i64 s3, .int .i64 u3, h8 t3, h8 p4, .int .i64 q4, .int .i64 s4, .int .i64 u4, h8 t4] 65)).cell? ⟨B, i2 * 5 + 4, none⟩ = some (h8 t2) ∧ (Wd.alloc (.cells #[h8 p0, .int .i64 q0, .int .i64 s0, .int .i64 u0, h8 t0, h8 p1, .int .i64 q1, .int .i64 s1, .int .i64 u1, h8 t1, h8 p2, .int .i64 q2, .int .i64 s2, .int .i64 u2, h8 t2, h8 p3, .int .i64 q3, .int .i64 s3, .int .i64 u3, h8 t3, h8 p4, .int .i64 q4, .int .i64 s4, .int .i64 u4, h8 t4] 65)).cell? ⟨B, i3 * 5, none⟩ = some (h8 p3) ∧ (Wd.alloc (.cells #[h8 p0, .int .i64 q0, .int .i64 s0, .int .i64 u0, h8 t0, h8 p1, .int .i64 q1, .int .i64 s1, .int .i64 u1, h8 t1, h8 p2, .int .i64 q2, .int .i64 s2, .int .i64 u2, h8 t2, h8 p3, .int .i64 q3, .int .i64 s3, .int .i64 u3, h8 t3, h8 p4, .int .i64 q4, .int .i64 s4, .int .i64 u4, h8 t4] 65)).cell? ⟨B, i3 * 5 + 1, none⟩ = some (.int .i64 q3) ∧ (Wd.alloc (.cells #[h8 p0, .int .i64 q0, .int .i64 s0, .int .i64 u0, h8 t0, h8 p1, .int .i64 q1, .int .i64 s1, .int .i64 u1, h8 t1, h8 p2, .int .i64 q2, .int .i64 s2, .int .i64 u2, h8 t2, h8 p3, .int .i64 q3, .int .i64 s3, .int .i64 u3, h8 t3, h8 p4, .int .i64 q4, .int .i64 s4, .int .i64 u4, h8 t4] 65)).cell? ⟨B, i3 * 5 + 2, none⟩ = some (.int .i64 s3) ∧ (Wd.alloc (.cells #[h8 p0, .int .i64 q0, .int .i64 s0, .int .i64 u0, h8 t0, h8 p1, .int .i64 q1, .int .i64 s1, .int .i64 u1, h8 t1, h8 p2, .int .i64 q2, .int .i64 s2, .int .i64 u2, h8 t2, h8 p3, .int .i64 q3, .int .i64 s3, .int .i64 u3, h8 t3, h8 p4, .int .i64 q4, .int .i64 s4, .int .i64 u4, h8 t4] 65)).cell? ⟨B, i3 * 5 + 3, none⟩ = some (.int .i64 u3) ∧ (Wd.alloc (.cells #[h8 p0, .int .i64 q0, .int .i64 s0, .int .i64 u0, h8 t0, h8 p1, .int .i64 q1, .int .i64 s1, .int .i64 u1, h8 t1, h8 p2, .int .i64 q2, .int .i64 s2, .int .i64 u2, h8 t2, h8 p3, .int .i64 q3, .int .i64 s3, .int .i64 u3, h8 t3, h8 p4, .int .i64 q4, .int .i64 s4, .int .i64 u4, h8 t4] 65)).cell? ⟨B, i3 * 5 + 4, none⟩ = some (h8 t3) ∧ (Wd.alloc (.cells #[h8 p0, .int .i64 q0, .int .i64 s0, .int .i64 u0, h8 t0, h8 p1, .int .i64 q1, .int .i64 s1, .int .i64 u1, h8 t1, h8 p2, .int .i64 q2, .int .i64 s2, .int .i64 u2, h8 t2, h8 p3, .int .i64 q3, .int .i64 s3, .int .i64 u3, h8 t3, h8 p4, .int .i64 q4, .int .i64 s4, .int .i64 u4, h8 t4] 65)).cell? ⟨B, i4 * 5, none⟩ = some (h8 p4) ∧ (Wd.alloc (.cells #[h8 p0, .int .i64 q0, .int .i64 s0, .int .i64 u0, h8 t0, h8 p1, .int .i64 q1, .int .i64 s1, .int .i64 u1, h8 t1, h8 p2, .int .i64 q2, .int .i64 s2, .int .i64 u2, h8 t2, h8 p3, .int .i64 q3, .int .i64 s3, .int .i64 u3, h8 t3, h8 p4, .int .i64 q4, .int .i64 s4, .int .i64 u4, h8 t4] 65)).cell? ⟨B, i4 * 5 + 1, none⟩ = some (.int .i64 q4) ∧ (Wd.alloc (.cells #[h8 p0, .int .i64 q0, .int .i64 s0, .int .i64 u0, h8 t0, h8 p1, .int .i64 q1, .int .i64 s1, .int .i64 u1, h8 t1, h8 p2, .int .i64 q2, .int .i64 s2, .int .i64 u2, h8 t2, h8 p3, .int .i64 q3, .int .i64 s3, .int .i64 u3, h8 t3, h8 p4, .int .i64 q4, .int .i64 s4, .int .i64 u4, h8 t4] 65)).cell? ⟨B, i4 * 5 + 2, none⟩ = some (.int .i64 s4) ∧ (Wd.alloc (.cells #[h8 p0, .int .i64 q0, .int .i64 s0, .int .i64 u0, h8 t0, h8 p1, .int .i64 q1, .int .i64 s1, .int .i64 u1, h8 t1, h8 p2, .int .i64 q2, .int .i64 s2, .int .i64 u2, h8 t2, h8 p3, .int .i64 q3, .int .i64 s3, .int .i64 u3, h8 t3, h8 p4, .int .i64 q4, .int .i64 s4, .int .i64 u4, h8 t4] 65)).cell? ⟨B, i4 * 5 + 3, none⟩ = some (.int .i64 u4) ∧ (Wd.alloc (.cells #[h8 p0, .int .i64 q0, .int .i64 s0, .int .i64 u0, h8 t0, h8 p1, .int .i64 q1, .int .i64 s1, .int .i64 u1, h8 t1, h8 p2, .int .i64 q2, .int .i64 s2, .int .i64 u2, h8 t2, h8 p3, .int .i64 q3, .int .i64 s3, .int .i64 u3, h8 t3, h8 p4, .int .i64 q4, .int .i64 s4, .int .i64 u4, h8 t4] 65)).cell? ⟨B, i4 * 5 + 4, none⟩ = some (h8 t4) := ⟨hS_.1.trans (hA.mono hS_.1.size), cell_keep hS_.2.1 hA, cell_keep hS_.2.2.1 hA, cell_keep hS_.2.2.2.1 hA, cell_keep hS_.2.2.2.2.1 hA, cell_keep hS_.2.2.2.2.2.1 hA, cell_keep hS_.2.2.2.2.2.2.1 hA, cell_keep hS_.2.2.2.2.2.2.2.1 hA, cell_keep hS_.2.2.2.2.2.2.2.2.1 hA, cell_keep hS_.2.2.2.2.2.2.2.2.2.1 hA, cell_keep hS_.2.2.2.2.2.2.2.2.2.2.1 hA, cell_keep hS_.2.2.2.2.2.2.2.2.2.2.2.1 hA, cell_keep hS_.2.2.2.2.2.2.2.2.2.2.2.2.1 hA, cell_keep hS_.2.2.2.2.2.2.2.2.2.2.2.2.2.1 hA, cell_keep hS_.2.2.2.2.2.2.2.2.2.2.2.2.2.2.1 hA, cell_keep hS_.2.2.2.2.2.2.2.2.2.2.2.2.2.2.2.1 hA, cell_keep hS_.2.2.2.2.2.2.2.2.2.2.2.2.2.2.2.2.1 hA, cell_keep hS_.2.2.2.2.2.2.2.2.2.2.2.2.2.2.2.2.2.1 hA, cell_keep hS_.2.2.2.2.2.2.2.2.2.2.2.2.2.2.2.2.2.2.1 hA, cell_keep hS_.2.2.2.2.2.2.2.2.2.2.2.2.2.2.2.2.2.2.2.1 hA, cell_keep hS_.2.2.2.2.2.2.2.2.2.2.2.2.2.2.2.2.2.2.2.2.1 hA, cell_keep hS_.2.2.2.2.2.2.2.2.2.2.2.2.2.2.2.2.2.2.2.2.2.1 hA, cell_keep hS_.2.2.2.2.2.2.2.2.2.2.2.2.2.2.2.2.2.2.2.2.2.2.1 hA, cell_keep hS_.2.2.2.2.2.2.2.2.2.2.2.2.2.2.2.2.2.2.2.2.2.2.2.1 hA, cell_keep hS_.2.2.2.2.2.2.2.2.2.2.2.2.2.2.2.2.2.2.2.2.2.2.2.2.1 hA, cell_keep hS_.2.2.2.2.2.2.2.2.2.2.2.2.2.2.2.2.2.2.2.2.2.2.2.2.2 hA⟩
  refine hK.out _ _ hS1_ (fun _ => ?_)
  clear hK K
  try simp only [Act.put, List.setIfInBounds_toArray, List.set_cons_zero, List.set_cons_succ]
  obtain ⟨w2, hw2⟩ : ∃ W, (Wd.alloc (.cells #[h8 p0, .int .i64 q0, .int .i64 s0, .int .i64 u0, h8 t0, h8 p1, .int .i64 q1, .int .i64 s1, .int .i64 u1, h8 t1, h8 p2, .int .i64 q2, .int .i64 s2, .int .i64 u2, h8 t2, h8 p3, .int .i64 q3, .int .i64 s3, .int .i64 u3, h8 t3, h8 p4, .int .i64 q4, .int .i64 s4, .int .i64 u4, h8 t4] 65)) = W := ⟨_, rfl⟩
  rw [hw2] at hx1 hS1_ ⊢
  have HC := Hd.mk (acts_any (nxt := 1) (srcN_box aL [(⟨p0, q0, s0, u0, t0⟩ : Ac), (⟨p1, q1, s1, u1, t1⟩ : Ac), (⟨p2, q2, s2, u2, t2⟩ : Ac), (⟨p3, q3, s3, u3, t3⟩ : Ac), (⟨p4, q4, s4, u4, t4⟩ : Ac)] hx1 rfl (by simp)) HKA.out)
  clear hA hx1 hw2 hS_
  refine wpAnyH_ready (rs := [26]) (by kernel_rfl) (by simp) (readyL rfl (fun K hK => ?_) AllReadyH.nil)
  go_simp
  refine HC.out.mono ?_
  rintro e w3 ⟨rfl, hB3⟩
  have hS3_ : Below base.heap.size base w3 ∧ w3.cell? ⟨B, 0, none⟩ = some (h8 p0) ∧ w3.cell? ⟨B, 1, none⟩ = some (.int .i64 q0) ∧ w3.cell? ⟨B, 2, none⟩ = some (.int .i64 s0) ∧ w3.cell? ⟨B, 3, none⟩ = some (.int .i64 u0) ∧ w3.cell? ⟨B, 4, none⟩ = some (h8 t0) ∧ w3.cell? ⟨B, i1 * 5, none⟩ = some (h8 p1) ∧ w3.cell? ⟨B, i1 * 5 + 1, none⟩ = some (.int .i64 q1) ∧ w3.cell? ⟨B, i1 * 5 + 2, none⟩ = some (.int .i64 s1) ∧ w3.cell? ⟨B, i1 * 5 + 3, none⟩ = some (.int .i64 u1) ∧ w3.cell? ⟨B, i1 * 5 + 4, none⟩ = some (h8 t1) ∧ w3.cell? ⟨B, i2 * 5, none⟩ = some (h8 p2) ∧ w3.cell? ⟨B, i2 * 5 + 1, none⟩ = some (.int .i64 q2) ∧ w3.cell? ⟨B, i2 * 5 + 2, none⟩ = some (.int .i64 s2) ∧ w3.cell? ⟨B, i2 * 5 + 3, none⟩ = some (.int .i64 u2) ∧ w3.cell? ⟨B, i2 * 5 + 4, none⟩ = some (h8 t2) ∧ w3.cell? ⟨B, i3 * 5, none⟩ = some (h8 p3) ∧ w3.cell? ⟨B, i3 * 5 + 1, none⟩ = some (.int .i64 q3) ∧ w3.cell? ⟨B, i3 * 5 + 2, none⟩ = some (.int .i64 s3) ∧ w3.cell? ⟨B, i3 * 5 + 3, none⟩ = some (.int .i64 u3) ∧ w3.cell? ⟨B, i3 * 5 + 4, none⟩ = some (h8 t3) ∧ w3.cell? ⟨B, i4 * 5, none⟩ = some (h8 p4) ∧ w3.cell? ⟨B, i4 * 5 + 1, none⟩ = some (.int .i64 q4) ∧ w3.cell? ⟨B, i4 * 5 + 2, none⟩ = some (.int .i64 s4) ∧ w3.cell? ⟨B, i4 * 5 + 3, none⟩ = some (.int .i64 u4) ∧ w3.cell? ⟨B, i4 * 5 + 4, none⟩ = some (h8 t4) := ⟨hS1_.1.trans (hB3.mono hS1_.1.size), cell_keep hS1_.2.1 hB3, cell_keep hS1_.2.2.1 hB3, cell_keep hS1_.2.2.2.1 hB3, cell_keep hS1_.2.2.2.2.1 hB3, cell_keep hS1_.2.2.2.2.2.1 hB3, cell_keep hS1_.2.2.2.2.2.2.1 hB3, cell_keep hS1_.2.2.2.2.2.2.2.1 hB3, cell_keep hS1_.2.2.2.2.2.2.2.2.1 hB3, cell_keep hS1_.2.2.2.2.2.2.2.2.2.1 hB3, cell_keep hS1_.2.2.2.2.2.2.2.2.2.2.1 hB3, cell_keep hS1_.2.2.2.2.2.2.2.2.2.2.2.1 hB3, cell_keep hS1_.2.2.2.2.2.2.2.2.2.2.2.2.1 hB3, cell_keep hS1_.2.2.2.2.2.2.2.2.2.2.2.2.2.1 hB3, cell_keep hS1_.2.2.2.2.2.2.2.2.2.2.2.2.2.2.1 hB3, cell_keep hS1_.2.2.2.2.2.2.2.2.2.2.2.2.2.2.2.1 hB3, cell_keep hS1_.2.2.2.2.2.2.2.2.2.2.2.2.2.2.2.2.1 hB3, cell_keep hS1_.2.2.2.2.2.2.2.2.2.2.2.2.2.2.2.2.2.1 hB3, cell_keep hS1_.2.2.2.2.2.2.2.2.2.2.2.2.2.2.2.2.2.2.1 hB3, cell_keep hS1_.2.2.2.2.2.2.2.2.2.2.2.2.2.2.2.2.2.2.2.1 hB3, cell_keep hS1_.2.2.2.2.2.2.2.2.2.2.2.2.2.2.2.2.2.2.2.2.1 hB3, cell_keep hS1_.2.2.2.2.2.2.2.2.2.2.2.2.2.2.2.2.2.2.2.2.2.1 hB3, cell_keep hS1_.2.2.2.2.2.2.2.2.2.2.2.2.2.2.2.2.2.2.2.2.2.2.1 hB3, cell_keep hS1_.2.2.2.2.2.2.2.2.2.2.2.2.2.2.2.2.2.2.2.2.2.2.2.1 hB3, cell_keep hS1_.2.2.2.2.2.2.2.2.2.2.2.2.2.2.2.2.2.2.2.2.2.2.2.2.1 hB3, cell_keep hS1_.2.2.2.2.2.2.2.2.2.2.2.2.2.2.2.2.2.2.2.2.2.2.2.2.2 hB3⟩
  refine hK.out _ _ hS3_ (fun _ => ?_)
  clear hK K
  try simp only [Act.put, List.setIfInBounds_toArray, List.set_cons_zero, List.set_cons_succ]
  refine takeW 27 ?_ rfl (by kernel_rfl) (by kernel_rfl) (by kernel_rfl) (fun c a w h => hP c a _ _ w h) (by rfl) ?_ hS3_ ?_
  rotate_left
  · intro w hSw
    go_simp
    with_reducible rfl
  try simp only [Act.put, List.setIfInBounds_toArray, List.set_cons_zero, List.set_cons_succ]
  refine wpAnyH_done (by kernel_rfl) ?_ _
  exact HQ.out _ _ _ _ _ _ _ _ _ _ _ _ _ _ _ _ _ _ _ _ _ _ _ _ _ _ _ _ hS3_.1

end Go.Proofs.Ytinagiofolmhbaa
