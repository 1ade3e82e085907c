/- The law CellsSmall: one script (a region that draws its order). -/
import Derived.Test.YtnhkadknibinfaaS2
namespace Go.Proofs.Ytnhkadknibinfaa
open Go.RowKit
set_option linter.unusedVariables false
set_option linter.unusedSimpArgs false

/-- A literal slice of structs, out of its block. -/
theorem srcN_box {α : Type} (L : Lays α) {W : World} {b e : Nat} (xs : List α) {cs : Array Value} (h : W.heap[b]? = some (.cells cs e (0, 0))) (hc : cs = (flatN L xs).toArray) (hm : xs.length ≤ 100000) : SrcN L W (.slice (some ⟨b, 0, none⟩) xs.length xs.length) xs :=
  .inr ⟨b, 0, xs.length, rfl, Nat.le_refl _, by simp only [maxLen]; omega, lt_of_heap h, fun j hj r u hr => by
    have hrs : r < L.sz := by rw [← L.len xs[j]]; exact (List.getElem?_eq_some_iff.1 hr).1
    rw [cells_cell h, Nat.zero_add, hc, List.getElem?_toArray]
    exact (flatN_get L xs j hj r hrs).trans hr⟩
def lit8 : Array Value := #[.int .u8 0, .int .i64 1, .int .i64 0, .int .i64 1, .int .u8 0, .int .i64 1, .int .i64 0, .int .i64 0, .int .u8 0, .int .i64 2, .int .i64 0, .int .i64 1, .int .u8 4, .int .i64 0, .int .i64 0, .int .i64 0, .int .u8 5, .int .i64 0, .int .i64 0, .int .i64 0, .int .u8 6, .int .i64 0, .int .i64 0, .int .i64 0, .int .u8 0, .int .i64 2, .int .i64 0, .int .i64 (-1), .int .u8 7, .int .i64 2, .int .i64 0, .int .i64 0]
theorem lit8_at : ∀ k, k < 8 → ∃ p q r s : Int, 0 ≤ p ∧ p < 256 ∧ lit8[k * 4]? = some (.int .u8 p) ∧ lit8[k * 4 + 1]? = some (.int .i64 q) ∧ lit8[k * 4 + 2]? = some (.int .i64 r) ∧ lit8[k * 4 + 3]? = some (.int .i64 s)
  | 0, _ => ⟨_, _, _, _, by decide, by decide, rfl, rfl, rfl, rfl⟩
  | 1, _ => ⟨_, _, _, _, by decide, by decide, rfl, rfl, rfl, rfl⟩
  | 2, _ => ⟨_, _, _, _, by decide, by decide, rfl, rfl, rfl, rfl⟩
  | 3, _ => ⟨_, _, _, _, by decide, by decide, rfl, rfl, rfl, rfl⟩
  | 4, _ => ⟨_, _, _, _, by decide, by decide, rfl, rfl, rfl, rfl⟩
  | 5, _ => ⟨_, _, _, _, by decide, by decide, rfl, rfl, rfl, rfl⟩
  | 6, _ => ⟨_, _, _, _, by decide, by decide, rfl, rfl, rfl, rfl⟩
  | 7, _ => ⟨_, _, _, _, by decide, by decide, rfl, rfl, rfl, rfl⟩
  | _ + 8, h => absurd h (by omega)
theorem srcI_box {W : World} {b e : Nat} (xs : List Int) {cs : Array Value} (h : W.heap[b]? = some (.cells cs e (0, 0))) (hc : cs = (xs.map fun n : Int => Value.int .i64 n).toArray) (hm : xs.length ≤ 100000 := by simp) : SrcI W (.slice (some ⟨b, 0, none⟩) xs.length xs.length) xs :=
  .inr ⟨⟨b, 0, none⟩, xs.length, rfl, Nat.le_refl _, by simp only [maxLen]; omega, fun j hj => by
    rw [plain_add, Nat.zero_add, cells_cell h, hc]
    simp [hj]⟩
noncomputable def piece5 : Code := ((Try.f8.body.bind (regOf 5)).getD .skip)

set_option maxRecDepth 1000000 in
set_option maxHeartbeats 8000000 in
theorem r5 (base : World) (B n : Nat) (hB0 : base.heap[B]? = some (.cells lit8 59 (0, 0))) (hn : n < 32768) (Q : Exit → Act → World → Prop) (hP : ∀ c (a : Act) (t : Tmp) v w, Q (.panic c) (a.put (some t) v) w → Q (.panic c) a w)
    {c0 c3 c4 c5 c6 c7 c8 c9 c10 c11 c12 c13 c14 c15 c16 c17 c18 c19 c20 c21 c22 c23 c24 c25 c26 c27 c28 c29 c30 c31 c32 c33 c34 c35 c36 c37 c38 c39 c40 c41 c42 c43 c44 c45 c46 c47 c48 c49 c50 c51 c52 c53 c54 c55 c56 c57 c58 c59 c60 c61 c62 c63 c64 c65 c66 c67 c68 c69 c70 c71 c72 c73 c74 c75 c76 c77 c78 c79 c80 c81 c82 c83 c84 c85 c86 c87 c88 c89 c90 c91 c92 c93 c94 c95 c96 c97 c98 c99 c100 c101 c102 c103 c104 c105 c106 c107 c108 c109 c110 c111 c112 c113 c114 c115 c116 c117 c118 c119 c120 c121 c122 c123 c124 c125 c126 c127 c128 c129 c130 c131 c132 c133 c134 c135 c136 c137 c138 c139 c140 c141 c142 c143 c144 c145 c146 c147 c148 c149 c150 c151 c152 c153 c154 c155 c156 c157 c158 c159 c160 c161 c162 c163 c164 c165 c166 c167 c168 c169 c170 c171 c172 c173 c174 c175 c176 c177 c178 c179 c180 c181 c182 c183 c184 c185 c186 c187 c188 c189 c190 c191 c192 c193 c194 c195 c196 c197 c198 c199 c200 c201 c202 c203 c204 c205 c206 c207 c208 c209 c210 c211 c212 c213 c214 c215 c216 c217 c218 c219 c220 c221 c222 c223 c224 c225 c226 c227 c228 c229 c230 c231 c232 c233 c234 c235 c236 c237 c238 c239 c240 c241 c242 c243 c244 c245 c246 c247 c248 c249 c250 c251 c252 c253 c254 c255 c256 c257 c258 c259 c260 c261 c262 : Value}
    (hQ : ∀ (d45 d46 d47 d48 d49 d50 d51 d52 d53 d54 d55 d56 d57 d58 d59 d60 d61 d62 d63 d64 d65 d66 d67 d68 d69 d70 d71 d72 d73 d74 d75 : Value) (w : World), Below base.heap.size base w → Q .normal ⟨#[c0, .slice (some ⟨B, 0, none⟩) 8 8, .int .i64 (n : Int), c3, c4, c5, c6, c7, c8, c9, c10, c11, c12, c13, c14, c15, c16, c17, c18, c19, c20, c21, c22, c23, c24, c25, c26, c27, c28, c29, c30, c31, c32, c33, c34, c35, c36, c37, c38, c39, c40, c41, c42, c43, c44, d45, d46, d47, d48, d49, d50, d51, d52, d53, d54, d55, d56, d57, d58, d59, d60, d61, d62, d63, d64, d65, d66, d67, d68, d69, d70, d71, d72, d73, d74, d75, .bool false, c77, c78, c79, c80, c81, c82, c83, c84, c85, c86, c87, c88, c89, c90, c91, c92, c93, c94, c95, c96, c97, c98, c99, c100, c101, c102, c103, c104, c105, c106, c107, c108, c109, c110, c111, c112, c113, c114, c115, c116, c117, c118, c119, c120, c121, c122, c123, c124, c125, c126, c127, c128, c129, c130, c131, c132, c133, c134, c135, c136, c137, c138, c139, c140, c141, c142, c143, c144, c145, c146, c147, c148, c149, c150, c151, c152, c153, c154, c155, c156, c157, c158, c159, c160, c161, c162, c163, c164, c165, c166, c167, c168, c169, c170, c171, c172, c173, c174, c175, c176, c177, c178, c179, c180, c181, c182, c183, c184, c185, c186, c187, c188, c189, c190, c191, c192, c193, c194, c195, c196, c197, c198, c199, c200, c201, c202, c203, c204, c205, c206, c207, c208, c209, c210, c211, c212, c213, c214, c215, c216, c217, c218, c219, c220, c221, c222, c223, c224, c225, c226, c227, c228, c229, c230, c231, c232, c233, c234, c235, c236, c237, c238, c239, c240, c241, c242, c243, c244, c245, c246, c247, c248, c249, c250, c251, c252, c253, c254, c255, c256, c257, c258, c259, c260, c261, c262], []⟩ w) :
    Code.wp Try.prog piece5 Q ⟨#[c0, .slice (some ⟨B, 0, none⟩) 8 8, .int .i64 (n : Int), c3, c4, c5, c6, c7, c8, c9, c10, c11, c12, c13, c14, c15, c16, c17, c18, c19, c20, c21, c22, c23, c24, c25, c26, c27, c28, c29, c30, c31, c32, c33, c34, c35, c36, c37, c38, c39, c40, c41, c42, c43, c44, c45, c46, c47, c48, c49, c50, c51, c52, c53, c54, c55, c56, c57, c58, c59, c60, c61, c62, c63, c64, c65, c66, c67, c68, c69, c70, c71, c72, c73, c74, c75, c76, c77, c78, c79, c80, c81, c82, c83, c84, c85, c86, c87, c88, c89, c90, c91, c92, c93, c94, c95, c96, c97, c98, c99, c100, c101, c102, c103, c104, c105, c106, c107, c108, c109, c110, c111, c112, c113, c114, c115, c116, c117, c118, c119, c120, c121, c122, c123, c124, c125, c126, c127, c128, c129, c130, c131, c132, c133, c134, c135, c136, c137, c138, c139, c140, c141, c142, c143, c144, c145, c146, c147, c148, c149, c150, c151, c152, c153, c154, c155, c156, c157, c158, c159, c160, c161, c162, c163, c164, c165, c166, c167, c168, c169, c170, c171, c172, c173, c174, c175, c176, c177, c178, c179, c180, c181, c182, c183, c184, c185, c186, c187, c188, c189, c190, c191, c192, c193, c194, c195, c196, c197, c198, c199, c200, c201, c202, c203, c204, c205, c206, c207, c208, c209, c210, c211, c212, c213, c214, c215, c216, c217, c218, c219, c220, c221, c222, c223, c224, c225, c226, c227, c228, c229, c230, c231, c232, c233, c234, c235, c236, c237, c238, c239, c240, c241, c242, c243, c244, c245, c246, c247, c248, c249, c250, c251, c252, c253, c254, c255, c256, c257, c258, c259, c260, c261, c262], []⟩ base := by
  have HQ := Hd.mk hQ
  clear hQ
  obtain ⟨i0, hi0⟩ : ∃ d, n % 8 = d := ⟨_, rfl⟩
  obtain ⟨j1, hj1⟩ : ∃ d, n / 8 = d := ⟨_, rfl⟩
  obtain ⟨i1, hi1⟩ : ∃ d, j1 % 8 = d := ⟨_, rfl⟩
  obtain ⟨j2, hj2⟩ : ∃ d, n / 64 = d := ⟨_, rfl⟩
  obtain ⟨i2, hi2⟩ : ∃ d, j2 % 8 = d := ⟨_, rfl⟩
  obtain ⟨j3, hj3⟩ : ∃ d, n / 512 = d := ⟨_, rfl⟩
  obtain ⟨i3, hi3⟩ : ∃ d, j3 % 8 = d := ⟨_, rfl⟩
  obtain ⟨i4, hi4⟩ : ∃ d, n / 4096 = d := ⟨_, rfl⟩
  have r_i0 : Int.tmod (n : Int) 8 = (i0 : Int) := by rw [Int.tmod_eq_emod_of_nonneg (by omega)]; omega
  have e_i0 : (n : Int) % 8 = (i0 : Int) := by omega
  have r_i1 : Int.tmod (j1 : Int) 8 = (i1 : Int) := by rw [Int.tmod_eq_emod_of_nonneg (by omega)]; omega
  have e_i1 : (j1 : Int) % 8 = (i1 : Int) := by omega
  have r_i2 : Int.tmod (j2 : Int) 8 = (i2 : Int) := by rw [Int.tmod_eq_emod_of_nonneg (by omega)]; omega
  have e_i2 : (j2 : Int) % 8 = (i2 : Int) := by omega
  have r_i3 : Int.tmod (j3 : Int) 8 = (i3 : Int) := by rw [Int.tmod_eq_emod_of_nonneg (by omega)]; omega
  have e_i3 : (j3 : Int) % 8 = (i3 : Int) := by omega
  have t_j1 : Int.tdiv (n : Int) 8 = (j1 : Int) := by rw [Int.tdiv_eq_ediv_of_nonneg (by omega)]; omega
  have f_j1 : (n : Int) / 8 = (j1 : Int) := by omega
  have w_j1 : IntKind.i64.wrap (j1 : Int) = (j1 : Int) := IntWalk.i64_in _ ⟨by omega, by omega⟩
  have t_j2 : Int.tdiv (n : Int) 64 = (j2 : Int) := by rw [Int.tdiv_eq_ediv_of_nonneg (by omega)]; omega
  have f_j2 : (n : Int) / 64 = (j2 : Int) := by omega
  have w_j2 : IntKind.i64.wrap (j2 : Int) = (j2 : Int) := IntWalk.i64_in _ ⟨by omega, by omega⟩
  have t_j3 : Int.tdiv (n : Int) 512 = (j3 : Int) := by rw [Int.tdiv_eq_ediv_of_nonneg (by omega)]; omega
  have f_j3 : (n : Int) / 512 = (j3 : Int) := by omega
  have w_j3 : IntKind.i64.wrap (j3 : Int) = (j3 : Int) := IntWalk.i64_in _ ⟨by omega, by omega⟩
  have t_i4 : Int.tdiv (n : Int) 4096 = (i4 : Int) := by rw [Int.tdiv_eq_ediv_of_nonneg (by omega)]; omega
  have f_i4 : (n : Int) / 4096 = (i4 : Int) := by omega
  have w_i4 : IntKind.i64.wrap (i4 : Int) = (i4 : Int) := IntWalk.i64_in _ ⟨by omega, by omega⟩
  have l0 : i0 < 8 := by omega
  have l1 : i1 < 8 := by omega
  have l2 : i2 < 8 := by omega
  have l3 : i3 < 8 := by omega
  have l4 : i4 < 8 := by omega
  obtain ⟨p0, q0, s0, u0, pa0, pb0, x00, x01, x02, x03⟩ := lit8_at i0 l0
  rw [← cells_cell hB0 (i0 * 4)] at x00
  rw [← cells_cell hB0 (i0 * 4 + 1)] at x01
  rw [← cells_cell hB0 (i0 * 4 + 2)] at x02
  rw [← cells_cell hB0 (i0 * 4 + 3)] at x03
  obtain ⟨p1, q1, s1, u1, pa1, pb1, x10, x11, x12, x13⟩ := lit8_at i1 l1
  rw [← cells_cell hB0 (i1 * 4)] at x10
  rw [← cells_cell hB0 (i1 * 4 + 1)] at x11
  rw [← cells_cell hB0 (i1 * 4 + 2)] at x12
  rw [← cells_cell hB0 (i1 * 4 + 3)] at x13
  obtain ⟨p2, q2, s2, u2, pa2, pb2, x20, x21, x22, x23⟩ := lit8_at i2 l2
  rw [← cells_cell hB0 (i2 * 4)] at x20
  rw [← cells_cell hB0 (i2 * 4 + 1)] at x21
  rw [← cells_cell hB0 (i2 * 4 + 2)] at x22
  rw [← cells_cell hB0 (i2 * 4 + 3)] at x23
  obtain ⟨p3, q3, s3, u3, pa3, pb3, x30, x31, x32, x33⟩ := lit8_at i3 l3
  rw [← cells_cell hB0 (i3 * 4)] at x30
  rw [← cells_cell hB0 (i3 * 4 + 1)] at x31
  rw [← cells_cell hB0 (i3 * 4 + 2)] at x32
  rw [← cells_cell hB0 (i3 * 4 + 3)] at x33
  obtain ⟨p4, q4, s4, u4, pa4, pb4, x40, x41, x42, x43⟩ := lit8_at i4 l4
  rw [← cells_cell hB0 (i4 * 4)] at x40
  rw [← cells_cell hB0 (i4 * 4 + 1)] at x41
  rw [← cells_cell hB0 (i4 * 4 + 2)] at x42
  rw [← cells_cell hB0 (i4 * 4 + 3)] at x43
  have hl0 : ∀ k : Nat, k < 8 → (k : Int) < 8 := fun k h => by omega
  have m0 : (i0 : Int) < 8 := by omega
  have o0 : (0 : Int) ≤ (i0 : Int) := by omega
  have m1 : (i1 : Int) < 8 := by omega
  have o1 : (0 : Int) ≤ (i1 : Int) := by omega
  have m2 : (i2 : Int) < 8 := by omega
  have o2 : (0 : Int) ≤ (i2 : Int) := by omega
  have m3 : (i3 : Int) < 8 := by omega
  have o3 : (0 : Int) ≤ (i3 : Int) := by omega
  have m4 : (i4 : Int) < 8 := by omega
  have o4 : (0 : Int) ≤ (i4 : Int) := by omega
  have HKA : Hd (∀ a ∈ [(p0, q0, s0, u0), (p1, q1, s1, u1), (p2, q2, s2, u2), (p3, q3, s3, u3), (p4, q4, s4, u4)], 0 ≤ a.1 ∧ a.1 < 256) := ⟨by
    intro a ha
    simp only [List.mem_cons, List.not_mem_nil, or_false] at ha
    rcases ha with rfl | rfl | rfl | rfl | rfl
    all_goals exact ⟨by assumption, by assumption⟩⟩
  have hBl : B < base.heap.size := lt_of_heap hB0
  have hS0 : base.drew.cell? ⟨B, i0 * 4, none⟩ = some (.int .u8 p0) ∧ base.drew.cell? ⟨B, i0 * 4 + 1, none⟩ = some (.int .i64 q0) ∧ base.drew.cell? ⟨B, i0 * 4 + 2, none⟩ = some (.int .i64 s0) ∧ base.drew.cell? ⟨B, i0 * 4 + 3, none⟩ = some (.int .i64 u0) ∧ base.drew.cell? ⟨B, i1 * 4, none⟩ = some (.int .u8 p1) ∧ base.drew.cell? ⟨B, i1 * 4 + 1, none⟩ = some (.int .i64 q1) ∧ base.drew.cell? ⟨B, i1 * 4 + 2, none⟩ = some (.int .i64 s1) ∧ base.drew.cell? ⟨B, i1 * 4 + 3, none⟩ = some (.int .i64 u1) ∧ base.drew.cell? ⟨B, i2 * 4, none⟩ = some (.int .u8 p2) ∧ base.drew.cell? ⟨B, i2 * 4 + 1, none⟩ = some (.int .i64 q2) ∧ base.drew.cell? ⟨B, i2 * 4 + 2, none⟩ = some (.int .i64 s2) ∧ base.drew.cell? ⟨B, i2 * 4 + 3, none⟩ = some (.int .i64 u2) ∧ base.drew.cell? ⟨B, i3 * 4, none⟩ = some (.int .u8 p3) ∧ base.drew.cell? ⟨B, i3 * 4 + 1, none⟩ = some (.int .i64 q3) ∧ base.drew.cell? ⟨B, i3 * 4 + 2, none⟩ = some (.int .i64 s3) ∧ base.drew.cell? ⟨B, i3 * 4 + 3, none⟩ = some (.int .i64 u3) ∧ base.drew.cell? ⟨B, i4 * 4, none⟩ = some (.int .u8 p4) ∧ base.drew.cell? ⟨B, i4 * 4 + 1, none⟩ = some (.int .i64 q4) ∧ base.drew.cell? ⟨B, i4 * 4 + 2, none⟩ = some (.int .i64 s4) ∧ base.drew.cell? ⟨B, i4 * 4 + 3, none⟩ = some (.int .i64 u4) ∧ Below base.heap.size base base.drew := ⟨x00, x01, x02, x03, x10, x11, x12, x13, x20, x21, x22, x23, x30, x31, x32, x33, x40, x41, x42, x43, (Below.refl _ _).drew⟩
  clear hi0 hj1 hi1 hj2 hi2 hj3 hi3 hi4 hl0 l0 l1 l2 l3 l4 hn hB0 x00 x01 x02 x03 x10 x11 x12 x13 x20 x21 x22 x23 x30 x31 x32 x33 x40 x41 x42 x43 pa0 pb0 pa1 pb1 pa2 pb2 pa3 pb3 pa4 pb4
  have HS0 := Hd.mk hS0
  clear hS0
  refine wp_region_held_drew (S := fun W => W.cell? ⟨B, i0 * 4, none⟩ = some (.int .u8 p0) ∧ W.cell? ⟨B, i0 * 4 + 1, none⟩ = some (.int .i64 q0) ∧ W.cell? ⟨B, i0 * 4 + 2, none⟩ = some (.int .i64 s0) ∧ W.cell? ⟨B, i0 * 4 + 3, none⟩ = some (.int .i64 u0) ∧ W.cell? ⟨B, i1 * 4, none⟩ = some (.int .u8 p1) ∧ W.cell? ⟨B, i1 * 4 + 1, none⟩ = some (.int .i64 q1) ∧ W.cell? ⟨B, i1 * 4 + 2, none⟩ = some (.int .i64 s1) ∧ W.cell? ⟨B, i1 * 4 + 3, none⟩ = some (.int .i64 u1) ∧ W.cell? ⟨B, i2 * 4, none⟩ = some (.int .u8 p2) ∧ W.cell? ⟨B, i2 * 4 + 1, none⟩ = some (.int .i64 q2) ∧ W.cell? ⟨B, i2 * 4 + 2, none⟩ = some (.int .i64 s2) ∧ W.cell? ⟨B, i2 * 4 + 3, none⟩ = some (.int .i64 u2) ∧ W.cell? ⟨B, i3 * 4, none⟩ = some (.int .u8 p3) ∧ W.cell? ⟨B, i3 * 4 + 1, none⟩ = some (.int .i64 q3) ∧ W.cell? ⟨B, i3 * 4 + 2, none⟩ = some (.int .i64 s3) ∧ W.cell? ⟨B, i3 * 4 + 3, none⟩ = some (.int .i64 u3) ∧ W.cell? ⟨B, i4 * 4, none⟩ = some (.int .u8 p4) ∧ W.cell? ⟨B, i4 * 4 + 1, none⟩ = some (.int .i64 q4) ∧ W.cell? ⟨B, i4 * 4 + 2, none⟩ = some (.int .i64 s4) ∧ W.cell? ⟨B, i4 * 4 + 3, none⟩ = some (.int .i64 u4) ∧ Below base.heap.size base W) (by kernel_rfl) HS0.out (fun hS_ => ?_)
  try dsimp only at hS_
  refine takeW 1 ?_ rfl (by kernel_rfl) (by kernel_rfl) (by kernel_rfl) (fun c a w h => hP c a _ _ w h) (by rfl) ?_ hS_ ?_
  rotate_left
  · intro w hSw
    try dsimp only at hSw
    go_simp
    with_reducible rfl
  try simp only [Act.put, List.setIfInBounds_toArray, List.set_cons_zero, List.set_cons_succ]
  refine takeW 2 ?_ rfl (by kernel_rfl) (by kernel_rfl) (by kernel_rfl) (fun c a w h => hP c a _ _ w h) (by rfl) ?_ hS_ ?_
  rotate_left
  · intro w hSw
    try dsimp only at hSw
    go_simp
    with_reducible rfl
  try simp only [Act.put, List.setIfInBounds_toArray, List.set_cons_zero, List.set_cons_succ]
  refine takeW 3 ?_ rfl (by kernel_rfl) (by kernel_rfl) (by kernel_rfl) (fun c a w h => hP c a _ _ w h) (by rfl) ?_ hS_ ?_
  rotate_left
  · intro w hSw
    try dsimp only at hSw
    go_simp
    with_reducible rfl
  try simp only [Act.put, List.setIfInBounds_toArray, List.set_cons_zero, List.set_cons_succ]
  refine takeW 4 ?_ rfl (by kernel_rfl) (by kernel_rfl) (by kernel_rfl) (fun c a w h => hP c a _ _ w h) (by rfl) ?_ hS_ ?_
  rotate_left
  · intro w hSw
    try dsimp only at hSw
    go_simp
    with_reducible rfl
  try simp only [Act.put, List.setIfInBounds_toArray, List.set_cons_zero, List.set_cons_succ]
  refine takeW 5 ?_ rfl (by kernel_rfl) (by kernel_rfl) (by kernel_rfl) (fun c a w h => hP c a _ _ w h) (by rfl) ?_ hS_ ?_
  rotate_left
  · intro w hSw
    try dsimp only at hSw
    go_simp
    with_reducible rfl
  try simp only [Act.put, List.setIfInBounds_toArray, List.set_cons_zero, List.set_cons_succ]
  refine takeW 6 ?_ rfl (by kernel_rfl) (by kernel_rfl) (by kernel_rfl) (fun c a w h => hP c a _ _ w h) (by rfl) ?_ hS_ ?_
  rotate_left
  · intro w hSw
    try dsimp only at hSw
    go_simp
    with_reducible rfl
  try simp only [Act.put, List.setIfInBounds_toArray, List.set_cons_zero, List.set_cons_succ]
  refine takeW 7 ?_ rfl (by kernel_rfl) (by kernel_rfl) (by kernel_rfl) (fun c a w h => hP c a _ _ w h) (by rfl) ?_ hS_ ?_
  rotate_left
  · intro w hSw
    try dsimp only at hSw
    go_simp
    with_reducible rfl
  try simp only [Act.put, List.setIfInBounds_toArray, List.set_cons_zero, List.set_cons_succ]
  refine takeW 8 ?_ rfl (by kernel_rfl) (by kernel_rfl) (by kernel_rfl) (fun c a w h => hP c a _ _ w h) (by rfl) ?_ hS_ ?_
  rotate_left
  · intro w hSw
    try dsimp only at hSw
    go_simp
    with_reducible rfl
  try simp only [Act.put, List.setIfInBounds_toArray, List.set_cons_zero, List.set_cons_succ]
  refine takeW 9 ?_ rfl (by kernel_rfl) (by kernel_rfl) (by kernel_rfl) (fun c a w h => hP c a _ _ w h) (by rfl) ?_ hS_ ?_
  rotate_left
  · intro w hSw
    try dsimp only at hSw
    go_simp
    with_reducible rfl
  try simp only [Act.put, List.setIfInBounds_toArray, List.set_cons_zero, List.set_cons_succ]
  refine takeW 10 ?_ rfl (by kernel_rfl) (by kernel_rfl) (by kernel_rfl) (fun c a w h => hP c a _ _ w h) (by rfl) ?_ hS_ ?_
  rotate_left
  · intro w hSw
    try dsimp only at hSw
    go_simp
    with_reducible rfl
  try simp only [Act.put, List.setIfInBounds_toArray, List.set_cons_zero, List.set_cons_succ]
  refine takeW 11 ?_ rfl (by kernel_rfl) (by kernel_rfl) (by kernel_rfl) (fun c a w h => hP c a _ _ w h) (by rfl) ?_ hS_ ?_
  rotate_left
  · intro w hSw
    try dsimp only at hSw
    go_simp
    with_reducible rfl
  try simp only [Act.put, List.setIfInBounds_toArray, List.set_cons_zero, List.set_cons_succ]
  refine takeW 12 ?_ rfl (by kernel_rfl) (by kernel_rfl) (by kernel_rfl) (fun c a w h => hP c a _ _ w h) (by rfl) ?_ hS_ ?_
  rotate_left
  · intro w hSw
    try dsimp only at hSw
    go_simp
    with_reducible rfl
  try simp only [Act.put, List.setIfInBounds_toArray, List.set_cons_zero, List.set_cons_succ]
  refine takeW 13 ?_ rfl (by kernel_rfl) (by kernel_rfl) (by kernel_rfl) (fun c a w h => hP c a _ _ w h) (by rfl) ?_ hS_ ?_
  rotate_left
  · intro w hSw
    try dsimp only at hSw
    go_simp
    with_reducible rfl
  try simp only [Act.put, List.setIfInBounds_toArray, List.set_cons_zero, List.set_cons_succ]
  refine takeW 14 ?_ rfl (by kernel_rfl) (by kernel_rfl) (by kernel_rfl) (fun c a w h => hP c a _ _ w h) (by rfl) ?_ hS_ ?_
  rotate_left
  · intro w hSw
    try dsimp only at hSw
    go_simp
    with_reducible rfl
  try simp only [Act.put, List.setIfInBounds_toArray, List.set_cons_zero, List.set_cons_succ]
  refine takeW 15 ?_ rfl (by kernel_rfl) (by kernel_rfl) (by kernel_rfl) (fun c a w h => hP c a _ _ w h) (by rfl) ?_ hS_ ?_
  rotate_left
  · intro w hSw
    try dsimp only at hSw
    go_simp
    with_reducible rfl
  try simp only [Act.put, List.setIfInBounds_toArray, List.set_cons_zero, List.set_cons_succ]
  refine takeW 16 ?_ rfl (by kernel_rfl) (by kernel_rfl) (by kernel_rfl) (fun c a w h => hP c a _ _ w h) (by rfl) ?_ hS_ ?_
  rotate_left
  · intro w hSw
    try dsimp only at hSw
    go_simp
    with_reducible rfl
  try simp only [Act.put, List.setIfInBounds_toArray, List.set_cons_zero, List.set_cons_succ]
  refine takeW 17 ?_ rfl (by kernel_rfl) (by kernel_rfl) (by kernel_rfl) (fun c a w h => hP c a _ _ w h) (by rfl) ?_ hS_ ?_
  rotate_left
  · intro w hSw
    try dsimp only at hSw
    go_simp
    with_reducible rfl
  try simp only [Act.put, List.setIfInBounds_toArray, List.set_cons_zero, List.set_cons_succ]
  refine takeW 18 ?_ rfl (by kernel_rfl) (by kernel_rfl) (by kernel_rfl) (fun c a w h => hP c a _ _ w h) (by rfl) ?_ hS_ ?_
  rotate_left
  · intro w hSw
    try dsimp only at hSw
    go_simp
    with_reducible rfl
  try simp only [Act.put, List.setIfInBounds_toArray, List.set_cons_zero, List.set_cons_succ]
  refine takeW 19 ?_ rfl (by kernel_rfl) (by kernel_rfl) (by kernel_rfl) (fun c a w h => hP c a _ _ w h) (by rfl) ?_ hS_ ?_
  rotate_left
  · intro w hSw
    try dsimp only at hSw
    go_simp
    with_reducible rfl
  try simp only [Act.put, List.setIfInBounds_toArray, List.set_cons_zero, List.set_cons_succ]
  refine takeW 20 ?_ rfl (by kernel_rfl) (by kernel_rfl) (by kernel_rfl) (fun c a w h => hP c a _ _ w h) (by rfl) ?_ hS_ ?_
  rotate_left
  · intro w hSw
    try dsimp only at hSw
    go_simp
    with_reducible rfl
  try simp only [Act.put, List.setIfInBounds_toArray, List.set_cons_zero, List.set_cons_succ]
  refine takeW 21 ?_ rfl (by kernel_rfl) (by kernel_rfl) (by kernel_rfl) (fun c a w h => hP c a _ _ w h) (by rfl) ?_ hS_ ?_
  rotate_left
  · intro w hSw
    try dsimp only at hSw
    go_simp
    with_reducible rfl
  try simp only [Act.put, List.setIfInBounds_toArray, List.set_cons_zero, List.set_cons_succ]
  refine takeW 22 ?_ rfl (by kernel_rfl) (by kernel_rfl) (by kernel_rfl) (fun c a w h => hP c a _ _ w h) (by rfl) ?_ hS_ ?_
  rotate_left
  · intro w hSw
    try dsimp only at hSw
    go_simp
    with_reducible rfl
  try simp only [Act.put, List.setIfInBounds_toArray, List.set_cons_zero, List.set_cons_succ]
  refine takeW 23 ?_ rfl (by kernel_rfl) (by kernel_rfl) (by kernel_rfl) (fun c a w h => hP c a _ _ w h) (by rfl) ?_ hS_ ?_
  rotate_left
  · intro w hSw
    try dsimp only at hSw
    go_simp
    with_reducible rfl
  try simp only [Act.put, List.setIfInBounds_toArray, List.set_cons_zero, List.set_cons_succ]
  refine takeW 24 ?_ rfl (by kernel_rfl) (by kernel_rfl) (by kernel_rfl) (fun c a w h => hP c a _ _ w h) (by rfl) ?_ hS_ ?_
  rotate_left
  · intro w hSw
    try dsimp only at hSw
    go_simp
    with_reducible rfl
  try simp only [Act.put, List.setIfInBounds_toArray, List.set_cons_zero, List.set_cons_succ]
  refine takeW 25 ?_ rfl (by kernel_rfl) (by kernel_rfl) (by kernel_rfl) (fun c a w h => hP c a _ _ w h) (by rfl) ?_ hS_ ?_
  rotate_left
  · intro w hSw
    try dsimp only at hSw
    go_simp
    with_reducible rfl
  try simp only [Act.put, List.setIfInBounds_toArray, List.set_cons_zero, List.set_cons_succ]
  refine takeW 26 ?_ rfl (by kernel_rfl) (by kernel_rfl) (by kernel_rfl) (fun c a w h => hP c a _ _ w h) (by rfl) ?_ hS_ ?_
  rotate_left
  · intro w hSw
    try dsimp only at hSw
    go_simp
    with_reducible rfl
  try simp only [Act.put, List.setIfInBounds_toArray, List.set_cons_zero, List.set_cons_succ]
  refine takeW 27 ?_ rfl (by kernel_rfl) (by kernel_rfl) (by kernel_rfl) (fun c a w h => hP c a _ _ w h) (by rfl) ?_ hS_ ?_
  rotate_left
  · intro w hSw
    try dsimp only at hSw
    go_simp
    with_reducible rfl
  try simp only [Act.put, List.setIfInBounds_toArray, List.set_cons_zero, List.set_cons_succ]
  refine takeW 28 ?_ rfl (by kernel_rfl) (by kernel_rfl) (by kernel_rfl) (fun c a w h => hP c a _ _ w h) (by rfl) ?_ hS_ ?_
  rotate_left
  · intro w hSw
    try dsimp only at hSw
    go_simp
    with_reducible rfl
  try simp only [Act.put, List.setIfInBounds_toArray, List.set_cons_zero, List.set_cons_succ]
  clear r_i0 e_i0 r_i1 e_i1 r_i2 e_i2 r_i3 e_i3 t_j1 f_j1 w_j1 t_j2 f_j2 w_j2 t_j3 f_j3 w_j3 t_i4 f_i4 w_i4 m0 o0 m1 o1 m2 o2 m3 o3 m4 o4
  obtain ⟨Wd, hWd⟩ : ∃ W, base.drew = W := ⟨_, rfl⟩
  rw [hWd] at hS_ ⊢
  have HKEEP : ∀ W W', (W.cell? ⟨B, i0 * 4, none⟩ = some (.int .u8 p0) ∧ W.cell? ⟨B, i0 * 4 + 1, none⟩ = some (.int .i64 q0) ∧ W.cell? ⟨B, i0 * 4 + 2, none⟩ = some (.int .i64 s0) ∧ W.cell? ⟨B, i0 * 4 + 3, none⟩ = some (.int .i64 u0) ∧ W.cell? ⟨B, i1 * 4, none⟩ = some (.int .u8 p1) ∧ W.cell? ⟨B, i1 * 4 + 1, none⟩ = some (.int .i64 q1) ∧ W.cell? ⟨B, i1 * 4 + 2, none⟩ = some (.int .i64 s1) ∧ W.cell? ⟨B, i1 * 4 + 3, none⟩ = some (.int .i64 u1) ∧ W.cell? ⟨B, i2 * 4, none⟩ = some (.int .u8 p2) ∧ W.cell? ⟨B, i2 * 4 + 1, none⟩ = some (.int .i64 q2) ∧ W.cell? ⟨B, i2 * 4 + 2, none⟩ = some (.int .i64 s2) ∧ W.cell? ⟨B, i2 * 4 + 3, none⟩ = some (.int .i64 u2) ∧ W.cell? ⟨B, i3 * 4, none⟩ = some (.int .u8 p3) ∧ W.cell? ⟨B, i3 * 4 + 1, none⟩ = some (.int .i64 q3) ∧ W.cell? ⟨B, i3 * 4 + 2, none⟩ = some (.int .i64 s3) ∧ W.cell? ⟨B, i3 * 4 + 3, none⟩ = some (.int .i64 u3) ∧ W.cell? ⟨B, i4 * 4, none⟩ = some (.int .u8 p4) ∧ W.cell? ⟨B, i4 * 4 + 1, none⟩ = some (.int .i64 q4) ∧ W.cell? ⟨B, i4 * 4 + 2, none⟩ = some (.int .i64 s4) ∧ W.cell? ⟨B, i4 * 4 + 3, none⟩ = some (.int .i64 u4) ∧ Below base.heap.size base W) → Below W.heap.size W W' → (W'.cell? ⟨B, i0 * 4, none⟩ = some (.int .u8 p0) ∧ W'.cell? ⟨B, i0 * 4 + 1, none⟩ = some (.int .i64 q0) ∧ W'.cell? ⟨B, i0 * 4 + 2, none⟩ = some (.int .i64 s0) ∧ W'.cell? ⟨B, i0 * 4 + 3, none⟩ = some (.int .i64 u0) ∧ W'.cell? ⟨B, i1 * 4, none⟩ = some (.int .u8 p1) ∧ W'.cell? ⟨B, i1 * 4 + 1, none⟩ = some (.int .i64 q1) ∧ W'.cell? ⟨B, i1 * 4 + 2, none⟩ = some (.int .i64 s1) ∧ W'.cell? ⟨B, i1 * 4 + 3, none⟩ = some (.int .i64 u1) ∧ W'.cell? ⟨B, i2 * 4, none⟩ = some (.int .u8 p2) ∧ W'.cell? ⟨B, i2 * 4 + 1, none⟩ = some (.int .i64 q2) ∧ W'.cell? ⟨B, i2 * 4 + 2, none⟩ = some (.int .i64 s2) ∧ W'.cell? ⟨B, i2 * 4 + 3, none⟩ = some (.int .i64 u2) ∧ W'.cell? ⟨B, i3 * 4, none⟩ = some (.int .u8 p3) ∧ W'.cell? ⟨B, i3 * 4 + 1, none⟩ = some (.int .i64 q3) ∧ W'.cell? ⟨B, i3 * 4 + 2, none⟩ = some (.int .i64 s3) ∧ W'.cell? ⟨B, i3 * 4 + 3, none⟩ = some (.int .i64 u3) ∧ W'.cell? ⟨B, i4 * 4, none⟩ = some (.int .u8 p4) ∧ W'.cell? ⟨B, i4 * 4 + 1, none⟩ = some (.int .i64 q4) ∧ W'.cell? ⟨B, i4 * 4 + 2, none⟩ = some (.int .i64 s4) ∧ W'.cell? ⟨B, i4 * 4 + 3, none⟩ = some (.int .i64 u4) ∧ Below base.heap.size base W') := by
    rintro W W' ⟨h0_, h1_, h2_, h3_, h4_, h5_, h6_, h7_, h8_, h9_, h10_, h11_, h12_, h13_, h14_, h15_, h16_, h17_, h18_, h19_, hbel_⟩ hA_
    exact ⟨(hA_.cell (p := ⟨B, i0 * 4, none⟩) (Nat.lt_of_lt_of_le hBl hbel_.size)).trans h0_, (hA_.cell (p := ⟨B, i0 * 4 + 1, none⟩) (Nat.lt_of_lt_of_le hBl hbel_.size)).trans h1_, (hA_.cell (p := ⟨B, i0 * 4 + 2, none⟩) (Nat.lt_of_lt_of_le hBl hbel_.size)).trans h2_, (hA_.cell (p := ⟨B, i0 * 4 + 3, none⟩) (Nat.lt_of_lt_of_le hBl hbel_.size)).trans h3_, (hA_.cell (p := ⟨B, i1 * 4, none⟩) (Nat.lt_of_lt_of_le hBl hbel_.size)).trans h4_, (hA_.cell (p := ⟨B, i1 * 4 + 1, none⟩) (Nat.lt_of_lt_of_le hBl hbel_.size)).trans h5_, (hA_.cell (p := ⟨B, i1 * 4 + 2, none⟩) (Nat.lt_of_lt_of_le hBl hbel_.size)).trans h6_, (hA_.cell (p := ⟨B, i1 * 4 + 3, none⟩) (Nat.lt_of_lt_of_le hBl hbel_.size)).trans h7_, (hA_.cell (p := ⟨B, i2 * 4, none⟩) (Nat.lt_of_lt_of_le hBl hbel_.size)).trans h8_, (hA_.cell (p := ⟨B, i2 * 4 + 1, none⟩) (Nat.lt_of_lt_of_le hBl hbel_.size)).trans h9_, (hA_.cell (p := ⟨B, i2 * 4 + 2, none⟩) (Nat.lt_of_lt_of_le hBl hbel_.size)).trans h10_, (hA_.cell (p := ⟨B, i2 * 4 + 3, none⟩) (Nat.lt_of_lt_of_le hBl hbel_.size)).trans h11_, (hA_.cell (p := ⟨B, i3 * 4, none⟩) (Nat.lt_of_lt_of_le hBl hbel_.size)).trans h12_, (hA_.cell (p := ⟨B, i3 * 4 + 1, none⟩) (Nat.lt_of_lt_of_le hBl hbel_.size)).trans h13_, (hA_.cell (p := ⟨B, i3 * 4 + 2, none⟩) (Nat.lt_of_lt_of_le hBl hbel_.size)).trans h14_, (hA_.cell (p := ⟨B, i3 * 4 + 3, none⟩) (Nat.lt_of_lt_of_le hBl hbel_.size)).trans h15_, (hA_.cell (p := ⟨B, i4 * 4, none⟩) (Nat.lt_of_lt_of_le hBl hbel_.size)).trans h16_, (hA_.cell (p := ⟨B, i4 * 4 + 1, none⟩) (Nat.lt_of_lt_of_le hBl hbel_.size)).trans h17_, (hA_.cell (p := ⟨B, i4 * 4 + 2, none⟩) (Nat.lt_of_lt_of_le hBl hbel_.size)).trans h18_, (hA_.cell (p := ⟨B, i4 * 4 + 3, none⟩) (Nat.lt_of_lt_of_le hBl hbel_.size)).trans h19_, hbel_.trans (hA_.mono hbel_.size)⟩
  have HK := Hd.mk HKEEP
  clear HKEEP
  refine wpAnyH_ready (rs := [0, 29]) (by kernel_rfl) (by simp) (readyL rfl (fun K hK => ?_) (readyL rfl (fun K hK => ?_) AllReadyH.nil))
  · go_simp
    have hA := (Below.refl Wd.heap.size Wd).alloc (Nat.le_refl _) (.cells #[.int .i64 1, .int .i64 1] 3)
    have hS1_ := HK.out _ _ hS_ hA
    refine hK.out _ _ hS1_ (fun _ => ?_)
    clear hK K
    try simp only [Act.put, List.setIfInBounds_toArray, List.set_cons_zero, List.set_cons_succ]
    refine wpAnyH_ready (rs := [29]) (by kernel_rfl) (by simp) (readyL rfl (fun K hK => ?_) AllReadyH.nil)
    go_simp
    have hA2 := (Below.refl (Wd.alloc (.cells #[.int .i64 1, .int .i64 1] 3)).heap.size (Wd.alloc (.cells #[.int .i64 1, .int .i64 1] 3))).alloc (Nat.le_refl _) (.cells #[.int .u8 p0, .int .i64 q0, .int .i64 s0, .int .i64 u0, .int .u8 p1, .int .i64 q1, .int .i64 s1, .int .i64 u1, .int .u8 p2, .int .i64 q2, .int .i64 s2, .int .i64 u2, .int .u8 p3, .int .i64 q3, .int .i64 s3, .int .i64 u3, .int .u8 p4, .int .i64 q4, .int .i64 s4, .int .i64 u4] 59)
    have hS2_ := HK.out _ _ hS1_ hA2
    refine hK.out _ _ hS2_ (fun _ => ?_)
    clear hK K
    try simp only [Act.put, List.setIfInBounds_toArray, List.set_cons_zero, List.set_cons_succ]
    have hx1 := heap_alloc_new Wd (.cells #[.int .i64 1, .int .i64 1] 3)
    have hx2 := heap_alloc_new (Wd.alloc (.cells #[.int .i64 1, .int .i64 1] 3)) (.cells #[.int .u8 p0, .int .i64 q0, .int .i64 s0, .int .i64 u0, .int .u8 p1, .int .i64 q1, .int .i64 s1, .int .i64 u1, .int .u8 p2, .int .i64 q2, .int .i64 s2, .int .i64 u2, .int .u8 p3, .int .i64 q3, .int .i64 s3, .int .i64 u3, .int .u8 p4, .int .i64 q4, .int .i64 s4, .int .i64 u4] 59)
    have hx1 := (Below.heap_alloc (Wd.alloc (.cells #[.int .i64 1, .int .i64 1] 3)) (.cells #[.int .u8 p0, .int .i64 q0, .int .i64 s0, .int .i64 u0, .int .u8 p1, .int .i64 q1, .int .i64 s1, .int .i64 u1, .int .u8 p2, .int .i64 q2, .int .i64 s2, .int .i64 u2, .int .u8 p3, .int .i64 q3, .int .i64 s3, .int .i64 u3, .int .u8 p4, .int .i64 q4, .int .i64 s4, .int .i64 u4] 59) _ (lt_of_heap hx1)).trans hx1
    obtain ⟨w2, hw2⟩ : ∃ W, ((Wd.alloc (.cells #[.int .i64 1, .int .i64 1] 3)).alloc (.cells #[.int .u8 p0, .int .i64 q0, .int .i64 s0, .int .i64 u0, .int .u8 p1, .int .i64 q1, .int .i64 s1, .int .i64 u1, .int .u8 p2, .int .i64 q2, .int .i64 s2, .int .i64 u2, .int .u8 p3, .int .i64 q3, .int .i64 s3, .int .i64 u3, .int .u8 p4, .int .i64 q4, .int .i64 s4, .int .i64 u4] 59)) = W := ⟨_, rfl⟩
    rw [hw2] at hx1 hx2 hS2_
    rw [hw2]
    have hsz : (Wd.alloc (.cells #[.int .i64 1, .int .i64 1] 3)).heap.size = Wd.heap.size + 1 := by simp
    rw [hsz] at hx2
    have HC := Hd.mk (acts_any (srcI_box [1, 1] hx1 rfl) (by simp) (srcN_box actL [(p0, q0, s0, u0), (p1, q1, s1, u1), (p2, q2, s2, u2), (p3, q3, s3, u3), (p4, q4, s4, u4)] hx2 rfl (by simp)) HKA.out)
    clear hA hA2 hx1 hx2 hw2 hsz hS1_ hS_
    refine wpAnyH_ready (rs := [30]) (by kernel_rfl) (by simp) (readyL rfl (fun K hK => ?_) AllReadyH.nil)
    go_simp
    refine HC.out.mono ?_
    rintro e w3 ⟨rfl, hB3⟩
    have hS3_ := HK.out _ _ hS2_ hB3
    refine hK.out _ _ hS3_ (fun _ => ?_)
    clear hK K
    try simp only [Act.put, List.setIfInBounds_toArray, List.set_cons_zero, List.set_cons_succ]
    refine takeW 31 ?_ rfl (by kernel_rfl) (by kernel_rfl) (by kernel_rfl) (fun c a w h => hP c a _ _ w h) (by rfl) ?_ hS3_ ?_
    rotate_left
    · intro w hSw
      go_simp
      with_reducible rfl
    try simp only [Act.put, List.setIfInBounds_toArray, List.set_cons_zero, List.set_cons_succ]
    refine wpAnyH_done (by kernel_rfl) ?_ _
    obtain ⟨_, _, _, _, _, _, _, _, _, _, _, _, _, _, _, _, _, _, _, _, hbel_⟩ := hS3_
    exact HQ.out _ _ _ _ _ _ _ _ _ _ _ _ _ _ _ _ _ _ _ _ _ _ _ _ _ _ _ _ _ _ _ _ hbel_
  · go_simp
    have hA := (Below.refl Wd.heap.size Wd).alloc (Nat.le_refl _) (.cells #[.int .u8 p0, .int .i64 q0, .int .i64 s0, .int .i64 u0, .int .u8 p1, .int .i64 q1, .int .i64 s1, .int .i64 u1, .int .u8 p2, .int .i64 q2, .int .i64 s2, .int .i64 u2, .int .u8 p3, .int .i64 q3, .int .i64 s3, .int .i64 u3, .int .u8 p4, .int .i64 q4, .int .i64 s4, .int .i64 u4] 59)
    have hS1_ := HK.out _ _ hS_ hA
    refine hK.out _ _ hS1_ (fun _ => ?_)
    clear hK K
    try simp only [Act.put, List.setIfInBounds_toArray, List.set_cons_zero, List.set_cons_succ]
    refine wpAnyH_ready (rs := [0]) (by kernel_rfl) (by simp) (readyL rfl (fun K hK => ?_) AllReadyH.nil)
    go_simp
    have hA2 := (Below.refl (Wd.alloc (.cells #[.int .u8 p0, .int .i64 q0, .int .i64 s0, .int .i64 u0, .int .u8 p1, .int .i64 q1, .int .i64 s1, .int .i64 u1, .int .u8 p2, .int .i64 q2, .int .i64 s2, .int .i64 u2, .int .u8 p3, .int .i64 q3, .int .i64 s3, .int .i64 u3, .int .u8 p4, .int .i64 q4, .int .i64 s4, .int .i64 u4] 59)).heap.size (Wd.alloc (.cells #[.int .u8 p0, .int .i64 q0, .int .i64 s0, .int .i64 u0, .int .u8 p1, .int .i64 q1, .int .i64 s1, .int .i64 u1, .int .u8 p2, .int .i64 q2, .int .i64 s2, .int .i64 u2, .int .u8 p3, .int .i64 q3, .int .i64 s3, .int .i64 u3, .int .u8 p4, .int .i64 q4, .int .i64 s4, .int .i64 u4] 59))).alloc (Nat.le_refl _) (.cells #[.int .i64 1, .int .i64 1] 3)
    have hS2_ := HK.out _ _ hS1_ hA2
    refine hK.out _ _ hS2_ (fun _ => ?_)
    clear hK K
    try simp only [Act.put, List.setIfInBounds_toArray, List.set_cons_zero, List.set_cons_succ]
    have hx1 := heap_alloc_new Wd (.cells #[.int .u8 p0, .int .i64 q0, .int .i64 s0, .int .i64 u0, .int .u8 p1, .int .i64 q1, .int .i64 s1, .int .i64 u1, .int .u8 p2, .int .i64 q2, .int .i64 s2, .int .i64 u2, .int .u8 p3, .int .i64 q3, .int .i64 s3, .int .i64 u3, .int .u8 p4, .int .i64 q4, .int .i64 s4, .int .i64 u4] 59)
    have hx2 := heap_alloc_new (Wd.alloc (.cells #[.int .u8 p0, .int .i64 q0, .int .i64 s0, .int .i64 u0, .int .u8 p1, .int .i64 q1, .int .i64 s1, .int .i64 u1, .int .u8 p2, .int .i64 q2, .int .i64 s2, .int .i64 u2, .int .u8 p3, .int .i64 q3, .int .i64 s3, .int .i64 u3, .int .u8 p4, .int .i64 q4, .int .i64 s4, .int .i64 u4] 59)) (.cells #[.int .i64 1, .int .i64 1] 3)
    have hx1 := (Below.heap_alloc (Wd.alloc (.cells #[.int .u8 p0, .int .i64 q0, .int .i64 s0, .int .i64 u0, .int .u8 p1, .int .i64 q1, .int .i64 s1, .int .i64 u1, .int .u8 p2, .int .i64 q2, .int .i64 s2, .int .i64 u2, .int .u8 p3, .int .i64 q3, .int .i64 s3, .int .i64 u3, .int .u8 p4, .int .i64 q4, .int .i64 s4, .int .i64 u4] 59)) (.cells #[.int .i64 1, .int .i64 1] 3) _ (lt_of_heap hx1)).trans hx1
    obtain ⟨w2, hw2⟩ : ∃ W, ((Wd.alloc (.cells #[.int .u8 p0, .int .i64 q0, .int .i64 s0, .int .i64 u0, .int .u8 p1, .int .i64 q1, .int .i64 s1, .int .i64 u1, .int .u8 p2, .int .i64 q2, .int .i64 s2, .int .i64 u2, .int .u8 p3, .int .i64 q3, .int .i64 s3, .int .i64 u3, .int .u8 p4, .int .i64 q4, .int .i64 s4, .int .i64 u4] 59)).alloc (.cells #[.int .i64 1, .int .i64 1] 3)) = W := ⟨_, rfl⟩
    rw [hw2] at hx1 hx2 hS2_
    rw [hw2]
    have hsz : (Wd.alloc (.cells #[.int .u8 p0, .int .i64 q0, .int .i64 s0, .int .i64 u0, .int .u8 p1, .int .i64 q1, .int .i64 s1, .int .i64 u1, .int .u8 p2, .int .i64 q2, .int .i64 s2, .int .i64 u2, .int .u8 p3, .int .i64 q3, .int .i64 s3, .int .i64 u3, .int .u8 p4, .int .i64 q4, .int .i64 s4, .int .i64 u4] 59)).heap.size = Wd.heap.size + 1 := by simp
    rw [hsz] at hx2
    have HC := Hd.mk (acts_any (srcI_box [1, 1] hx2 rfl) (by simp) (srcN_box actL [(p0, q0, s0, u0), (p1, q1, s1, u1), (p2, q2, s2, u2), (p3, q3, s3, u3), (p4, q4, s4, u4)] hx1 rfl (by simp)) HKA.out)
    clear hA hA2 hx1 hx2 hw2 hsz hS1_ hS_
    refine wpAnyH_ready (rs := [30]) (by kernel_rfl) (by simp) (readyL rfl (fun K hK => ?_) AllReadyH.nil)
    go_simp
    refine HC.out.mono ?_
    rintro e w3 ⟨rfl, hB3⟩
    have hS3_ := HK.out _ _ hS2_ hB3
    refine hK.out _ _ hS3_ (fun _ => ?_)
    clear hK K
    try simp only [Act.put, List.setIfInBounds_toArray, List.set_cons_zero, List.set_cons_succ]
    refine takeW 31 ?_ rfl (by kernel_rfl) (by kernel_rfl) (by kernel_rfl) (fun c a w h => hP c a _ _ w h) (by rfl) ?_ hS3_ ?_
    rotate_left
    · intro w hSw
      go_simp
      with_reducible rfl
    try simp only [Act.put, List.setIfInBounds_toArray, List.set_cons_zero, List.set_cons_succ]
    refine wpAnyH_done (by kernel_rfl) ?_ _
    obtain ⟨_, _, _, _, _, _, _, _, _, _, _, _, _, _, _, _, _, _, _, _, hbel_⟩ := hS3_
    exact HQ.out _ _ _ _ _ _ _ _ _ _ _ _ _ _ _ _ _ _ _ _ _ _ _ _ _ _ _ _ _ _ _ _ hbel_
end Go.Proofs.Ytnhkadknibinfaa
