/- The law QuotaTells: region 9 of tells, which draws its order, as a theorem of its own. -/
import Derived.Test.YtppfhcocmpmadaaC0
import Derived.Test.YtppfhcocmpmadaaRC
import Derived.Test.YtppfhcocmpmadaaDG
namespace Go.Proofs.Ytppfhcocmpmadaa
open Go.RowKit
set_option linter.unusedVariables false

theorem guard68 : Try.prog.eqGuardType Try.prog.depth 68 = false := by kernel_rfl
def regOf (n : Nat) : Code → Option Code
  | .region id ops b => if id = n then some (.region id ops b) else none
  | .seq a b => match regOf n a with
    | some c => some c
    | none => regOf n b
  | .block _ c => regOf n c
  | .loop c => regOf n c
  | .scope c => regOf n c
  | .cond _ a b => match regOf n a with
    | some c => some c
    | none => regOf n b
  | _ => none
noncomputable def pieceT9 : Code := ((Try.f23.body.bind (regOf 9)).getD .skip)

set_option maxRecDepth 1000000 in
set_option maxHeartbeats 8000000 in
theorem rT9 (L U X1 Y1 X2 Y2 : Nat → Int) (i1 e1 i2 e2 : Int) (cs : List (Int × Int)) (a10 a11 : Option Addr) (c10 c11 g4 g9 g12 g15 g18 g21 : Nat) (wc : World)
    (HG4 : Hd (wc.heap[g4]? = some (.cells (bk L U) 27 (0, 0)))) (HG9 : Hd (wc.heap[g9]? = some (.cells (bk L U) 68 (0, 0)))) (HG12 : Hd (wc.heap[g12]? = some (.cells (bk X1 Y1) 27 (0, 0)))) (HG15 : Hd (wc.heap[g15]? = some (.cells (bk X1 Y1) 68 (0, 0))))
    (HG18 : Hd (wc.heap[g18]? = some (.cells (bk X2 Y2) 27 (0, 0)))) (HG21 : Hd (wc.heap[g21]? = some (.cells (bk X2 Y2) 68 (0, 0)))) (HS10 : Hd (SrcC wc (.slice a10 cs.length c10) cs)) (HS11 : Hd (SrcC wc (.slice a11 cs.length c11) cs))
    (Q : Exit → Act → World → Prop) (hP : ∀ c (a : Act) (t : Tmp) v w, Q (.panic c) (a.put (some t) v) w → Q (.panic c) a w)
    {c0 c1 c2 c3 c5 c6 c7 c8 c24 c25 c26 c27 c28 c29 c30 c31 c32 c33 c34 c35 c36 c37 c38 c39 c40 c41 c42 c43 c44 c45 c46 c47 c48 c49 c50 c51 c52 c53 c54 c55 c56 c57 c58 c59 c60 c61 c62 c63 c64 c65 c66 c67 c68 c69 c70 c71 c72 c73 c74 c75 c76 c77 c78 c79 c80 c81 c82 c83 c84 c85 c86 c87 c88 c89 c90 c91 c92 c93 c94 c95 c96 c97 c98 c99 c100 c101 c102 c103 c104 c105 c106 c107 c108 c109 c110 c111 c112 c113 c114 c115 c116 c117 c118 c119 c120 c121 c122 c123 c124 c125 c126 c127 c128 c129 c130 c131 c132 c133 c134 c135 c136 c137 c138 c139 c140 c141 c142 c143 c144 c145 c146 c147 c148 c149 c150 c151 c152 c153 c154 c155 c156 c157 c158 c159 c160 c161 c162 c163 c164 c165 c166 c167 c168 c169 c170 c171 c172 c173 c174 c175 c176 c177 c178 c179 c180 c181 c182 c183 c184 c185 c186 c187 c188 c189 c190 c191 c192 c193 c194 c195 c196 c197 c198 c199 c200 c201 c202 c203 c204 c205 c206 c207 c208 c209 c210 c211 c212 c213 c214 c215 c216 c217 c218 c219 c220 c221 c222 c223 c224 c225 c226 c227 c228 c229 c230 c231 c232 c233 c234 c235 c236 c237 c238 c239 c240 c241 c242 c243 c244 c245 c246 c247 c248 c249 c250 c251 c252 c253 c254 c255 c256 c257 c258 c259 c260 c261 c262 c263 c264 c265 c266 c267 c268 c269 c270 c271 c272 c273 c274 c275 c276 c277 c278 c279 c280 c281 c282 c283 c284 c285 c286 c287 c288 c289 c290 c291 c292 : Value}
    (hQ : ∀ (rb cb : Bool) (ck : Int) (wx : World), Below wc.heap.size wc wx → Q .normal ⟨#[c0, c1, c2, c3, .pointer (some ⟨g4, 0, none⟩), c5, c6, c7, c8, .pointer (some ⟨g9, 0, none⟩), .slice a10 cs.length c10, .slice a11 cs.length c11, .pointer (some ⟨g12, 0, none⟩), .int .i64 i1, .int .i64 e1, .pointer (some ⟨g15, 0, none⟩), .int .i64 i1, .int .i64 e1, .pointer (some ⟨g18, 0, none⟩), .int .i64 i2, .int .i64 e2, .pointer (some ⟨g21, 0, none⟩), .int .i64 i2, .int .i64 e2, c24, c25, c26, c27, c28, c29, c30, c31, c32, c33, c34, c35, c36, c37, c38, c39, c40, c41, c42, c43, c44, c45, c46, c47, c48, c49, c50, c51, c52, c53, c54, c55, c56, c57, c58, c59, c60, c61, c62, c63, c64, c65, c66, c67, c68, c69, c70, c71, c72, c73, c74, c75, c76, v8 (L 0) (L 1) (L 2) (L 3) (U 0) (U 1) (U 2) (U 3), .bool rb, v8 (L 0) (L 1) (L 2) (L 3) (U 0) (U 1) (U 2) (U 3), .bool rb, .bool false, .bool false, .slice a11 cs.length c11, .bool cb, .slice a10 cs.length c10, .int .i64 ck, .bool cb, .bool false, .bool false, .bool false, v8 (X1 0) (X1 1) (X1 2) (X1 3) (Y1 0) (Y1 1) (Y1 2) (Y1 3), v8 (X1 0) (X1 1) (X1 2) (X1 3) (Y1 0) (Y1 1) (Y1 2) (Y1 3), .bool false, .bool false, .bool false, .int .i64 i1, .int .i64 i1, .bool false, .bool false, .bool false, .int .i64 e1, .int .i64 e1, .bool false, .bool false, .bool false, v8 (X2 0) (X2 1) (X2 2) (X2 3) (Y2 0) (Y2 1) (Y2 2) (Y2 3), v8 (X2 0) (X2 1) (X2 2) (X2 3) (Y2 0) (Y2 1) (Y2 2) (Y2 3), .bool false, .bool false, .bool false, .int .i64 i2, .int .i64 i2, .bool false, .bool false, .bool false, .int .i64 e2, .int .i64 e2, .bool false, .bool false, c120, c121, c122, c123, c124, c125, c126, c127, c128, c129, c130, c131, c132, c133, c134, c135, c136, c137, c138, c139, c140, c141, c142, c143, c144, c145, c146, c147, c148, c149, c150, c151, c152, c153, c154, c155, c156, c157, c158, c159, c160, c161, c162, c163, c164, c165, c166, c167, c168, c169, c170, c171, c172, c173, c174, c175, c176, c177, c178, c179, c180, c181, c182, c183, c184, c185, c186, c187, c188, c189, c190, c191, c192, c193, c194, c195, c196, c197, c198, c199, c200, c201, c202, c203, c204, c205, c206, c207, c208, c209, c210, c211, c212, c213, c214, c215, c216, c217, c218, c219, c220, c221, c222, c223, c224, c225, c226, c227, c228, c229, c230, c231, c232, c233, c234, c235, c236, c237, c238, c239, c240, c241, c242, c243, c244, c245, c246, c247, c248, c249, c250, c251, c252, c253, c254, c255, c256, c257, c258, c259, c260, c261, c262, c263, c264, c265, c266, c267, c268, c269, c270, c271, c272, c273, c274, c275, c276, c277, c278, c279, c280, c281, c282, c283, c284, c285, c286, c287, c288, c289, c290, c291, c292], []⟩ wx) :
    Code.wp Try.prog pieceT9 Q ⟨#[c0, c1, c2, c3, .pointer (some ⟨g4, 0, none⟩), c5, c6, c7, c8, .pointer (some ⟨g9, 0, none⟩), .slice a10 cs.length c10, .slice a11 cs.length c11, .pointer (some ⟨g12, 0, none⟩), .int .i64 i1, .int .i64 e1, .pointer (some ⟨g15, 0, none⟩), .int .i64 i1, .int .i64 e1, .pointer (some ⟨g18, 0, none⟩), .int .i64 i2, .int .i64 e2, .pointer (some ⟨g21, 0, none⟩), .int .i64 i2, .int .i64 e2, c24, c25, c26, c27, c28, c29, c30, c31, c32, c33, c34, c35, c36, c37, c38, c39, c40, c41, c42, c43, c44, c45, c46, c47, c48, c49, c50, c51, c52, c53, c54, c55, c56, c57, c58, c59, c60, c61, c62, c63, c64, c65, c66, c67, c68, c69, c70, c71, c72, c73, c74, c75, c76, c77, c78, c79, c80, c81, c82, c83, c84, c85, c86, c87, c88, c89, c90, c91, c92, c93, c94, c95, c96, c97, c98, c99, c100, c101, c102, c103, c104, c105, c106, c107, c108, c109, c110, c111, c112, c113, c114, c115, c116, c117, c118, c119, c120, c121, c122, c123, c124, c125, c126, c127, c128, c129, c130, c131, c132, c133, c134, c135, c136, c137, c138, c139, c140, c141, c142, c143, c144, c145, c146, c147, c148, c149, c150, c151, c152, c153, c154, c155, c156, c157, c158, c159, c160, c161, c162, c163, c164, c165, c166, c167, c168, c169, c170, c171, c172, c173, c174, c175, c176, c177, c178, c179, c180, c181, c182, c183, c184, c185, c186, c187, c188, c189, c190, c191, c192, c193, c194, c195, c196, c197, c198, c199, c200, c201, c202, c203, c204, c205, c206, c207, c208, c209, c210, c211, c212, c213, c214, c215, c216, c217, c218, c219, c220, c221, c222, c223, c224, c225, c226, c227, c228, c229, c230, c231, c232, c233, c234, c235, c236, c237, c238, c239, c240, c241, c242, c243, c244, c245, c246, c247, c248, c249, c250, c251, c252, c253, c254, c255, c256, c257, c258, c259, c260, c261, c262, c263, c264, c265, c266, c267, c268, c269, c270, c271, c272, c273, c274, c275, c276, c277, c278, c279, c280, c281, c282, c283, c284, c285, c286, c287, c288, c289, c290, c291, c292], []⟩ wc := by
  have HQ := Hd.mk hQ
  clear hQ
  obtain ⟨rb, hrb⟩ : ∃ r, rightB L U = r := ⟨_, rfl⟩
  obtain ⟨ck, hck⟩ : ∃ r, chkV cs = r := ⟨_, rfl⟩
  obtain ⟨cb, hcb⟩ : ∃ r, (ck == 0) = r := ⟨_, rfl⟩
  have hcb2 : decide (ck = 0) = cb := by rw [← hcb]; rfl
  have HRB := Hd.mk hrb
  have HCK := Hd.mk hck
  have HCB := Hd.mk hcb
  clear hrb hck
  have hn1 : ∀ W : World, (binOp .neq 68 (v8 (X1 0) (X1 1) (X1 2) (X1 3) (Y1 0) (Y1 1) (Y1 2) (Y1 3)) (v8 (X1 0) (X1 1) (X1 2) (X1 3) (Y1 0) (Y1 1) (Y1 2) (Y1 3))).run Try.prog W = .ok (.bool false) W := fun W => by have := nev_rb X1 Y1 X1 Y1 W; rwa [eq4_self, eq4_self] at this
  have hn2 : ∀ W : World, (binOp .neq 68 (v8 (X2 0) (X2 1) (X2 2) (X2 3) (Y2 0) (Y2 1) (Y2 2) (Y2 3)) (v8 (X2 0) (X2 1) (X2 2) (X2 3) (Y2 0) (Y2 1) (Y2 2) (Y2 3))).run Try.prog W = .ok (.bool false) W := fun W => by have := nev_rb X2 Y2 X2 Y2 W; rwa [eq4_self, eq4_self] at this
  have gd68 := guard68
  conv => arg 2; whnf
  refine wp_region_held_drew (S := fun W => Below wc.heap.size wc W) (by kernel_rfl) (Below.refl _ _).drew (fun hb_ => ?_)
  obtain ⟨Wd, hWd⟩ : ∃ x, x = wc.drew := ⟨_, rfl⟩
  rw [← hWd] at hb_ ⊢
  clear hWd
  refine wpAnyH_takeG 0 (v8 (L 0) (L 1) (L 2) (L 3) (U 0) (U 1) (U 2) (U 3)) rfl (by decide +kernel) (by decide +kernel) (by decide +kernel) (fun c a w h => hP c a _ _ w h) (by rfl) ?_ hb_ ?_
  · intro w hSw
    have hSw : Below wc.heap.size wc w := hSw
    obtain ⟨d0, d1, d2, d3, d4, d5, d6, d7⟩ := lit8 (keep HG4.out hSw)
    go_simp
  try simp only [Act.put, List.setIfInBounds_toArray, List.set_cons_zero, List.set_cons_succ]
  refine wpAnyH_takeG 2 (v8 (L 0) (L 1) (L 2) (L 3) (U 0) (U 1) (U 2) (U 3)) rfl (by decide +kernel) (by decide +kernel) (by decide +kernel) (fun c a w h => hP c a _ _ w h) (by rfl) ?_ hb_ ?_
  · intro w hSw
    have hSw : Below wc.heap.size wc w := hSw
    obtain ⟨d0, d1, d2, d3, d4, d5, d6, d7⟩ := lit8 (keep HG9.out hSw)
    go_simp
  try simp only [Act.put, List.setIfInBounds_toArray, List.set_cons_zero, List.set_cons_succ]
  refine wpAnyH_ready (rs := [1]) (by decide +kernel) (by simp) ?_
  refine allReadyH_consL rfl (fun K hK => ?_) AllReadyH.nil
  go_simp
  refine (right_any L U _).mono ?_
  rintro e w_a ⟨rfl, hB⟩
  have hba := ch4 hb_ hB
  rw [HRB.out]
  go_wp2_with fail
  refine hK.out _ _ hba (fun _ => ?_)
  clear hK K hB
  try simp only [Act.put, List.setIfInBounds_toArray, List.set_cons_zero, List.set_cons_succ]
  refine wpAnyH_ready (rs := [3]) (by decide +kernel) (by simp) ?_
  refine allReadyH_consL rfl (fun K hK => ?_) AllReadyH.nil
  go_simp
  refine (rright_any L U _).mono ?_
  rintro e w_b ⟨rfl, hB⟩
  have hbb := ch4 hba hB
  rw [HRB.out]
  go_wp2_with fail
  refine hK.out _ _ hbb (fun _ => ?_)
  clear hK K hB
  try simp only [Act.put, List.setIfInBounds_toArray, List.set_cons_zero, List.set_cons_succ]
  refine wpAnyH_takeG 4 (.bool false) rfl (by decide +kernel) (by decide +kernel) (by decide +kernel) (fun c a w h => hP c a _ _ w h) (by rfl) ?_ hbb ?_
  · intro w hSw
    go_simp
  try simp only [Act.put, List.setIfInBounds_toArray, List.set_cons_zero, List.set_cons_succ]
  refine wpAnyH_takeG 5 (.bool false) rfl (by decide +kernel) (by decide +kernel) (by decide +kernel) (fun c a w h => hP c a _ _ w h) (by rfl) ?_ hbb ?_
  · intro w hSw
    go_simp
  try simp only [Act.put, List.setIfInBounds_toArray, List.set_cons_zero, List.set_cons_succ]
  refine wpAnyH_takeG 6 (.slice a11 cs.length c11) rfl (by decide +kernel) (by decide +kernel) (by decide +kernel) (fun c a w h => hP c a _ _ w h) (by rfl) ?_ hbb ?_
  · intro w hSw
    go_simp
  try simp only [Act.put, List.setIfInBounds_toArray, List.set_cons_zero, List.set_cons_succ]
  refine wpAnyH_takeG 8 (.slice a10 cs.length c10) rfl (by decide +kernel) (by decide +kernel) (by decide +kernel) (fun c a w h => hP c a _ _ w h) (by rfl) ?_ hbb ?_
  · intro w hSw
    go_simp
  try simp only [Act.put, List.setIfInBounds_toArray, List.set_cons_zero, List.set_cons_succ]
  refine wpAnyH_ready (rs := [7]) (by decide +kernel) (by simp) ?_
  refine allReadyH_consL rfl (fun K hK => ?_) AllReadyH.nil
  go_simp
  refine (charges_any _ cs _ (HS11.out.below hbb)).mono ?_
  rintro e w_c ⟨rfl, hB⟩
  have hbc := ch4 hbb hB
  rw [HCK.out, HCB.out]
  go_wp2_with fail
  refine hK.out _ _ hbc (fun _ => ?_)
  clear hK K hB
  try simp only [Act.put, List.setIfInBounds_toArray, List.set_cons_zero, List.set_cons_succ]
  refine wpAnyH_ready (rs := [9]) (by decide +kernel) (by simp) ?_
  refine allReadyH_consL rfl (fun K hK => ?_) AllReadyH.nil
  go_simp
  refine (rcheck_any _ cs _ (HS10.out.below hbc)).mono ?_
  rintro e w_d ⟨rfl, hB⟩
  have hbd := ch4 hbc hB
  rw [HCK.out]
  go_wp2_with fail
  refine hK.out _ _ hbd (fun _ => ?_)
  clear hK K hB
  try simp only [Act.put, List.setIfInBounds_toArray, List.set_cons_zero, List.set_cons_succ]
  refine wpAnyH_takeG 10 (.bool cb) rfl (by decide +kernel) (by decide +kernel) (by decide +kernel) (fun c a w h => hP c a _ _ w h) (by rfl) ?_ hbd ?_
  · intro w hSw
    go_simp
  try simp only [Act.put, List.setIfInBounds_toArray, List.set_cons_zero, List.set_cons_succ]
  refine wpAnyH_takeG 11 (.bool false) rfl (by decide +kernel) (by decide +kernel) (by decide +kernel) (fun c a w h => hP c a _ _ w h) (by rfl) ?_ hbd ?_
  · intro w hSw
    go_simp
  try simp only [Act.put, List.setIfInBounds_toArray, List.set_cons_zero, List.set_cons_succ]
  refine wpAnyH_takeG 12 (.bool false) rfl (by decide +kernel) (by decide +kernel) (by decide +kernel) (fun c a w h => hP c a _ _ w h) (by rfl) ?_ hbd ?_
  · intro w hSw
    go_simp
  try simp only [Act.put, List.setIfInBounds_toArray, List.set_cons_zero, List.set_cons_succ]
  refine wpAnyH_takeG 13 (.bool false) rfl (by decide +kernel) (by decide +kernel) (by decide +kernel) (fun c a w h => hP c a _ _ w h) (by rfl) ?_ hbd ?_
  · intro w hSw
    go_simp
  try simp only [Act.put, List.setIfInBounds_toArray, List.set_cons_zero, List.set_cons_succ]
  refine wpAnyH_takeG 14 (v8 (X1 0) (X1 1) (X1 2) (X1 3) (Y1 0) (Y1 1) (Y1 2) (Y1 3)) rfl (by decide +kernel) (by decide +kernel) (by decide +kernel) (fun c a w h => hP c a _ _ w h) (by rfl) ?_ hbd ?_
  · intro w hSw
    have hSw : Below wc.heap.size wc w := hSw
    obtain ⟨d0, d1, d2, d3, d4, d5, d6, d7⟩ := lit8 (keep HG12.out hSw)
    go_simp
  try simp only [Act.put, List.setIfInBounds_toArray, List.set_cons_zero, List.set_cons_succ]
  refine wpAnyH_takeG 15 (v8 (X1 0) (X1 1) (X1 2) (X1 3) (Y1 0) (Y1 1) (Y1 2) (Y1 3)) rfl (by decide +kernel) (by decide +kernel) (by decide +kernel) (fun c a w h => hP c a _ _ w h) (by rfl) ?_ hbd ?_
  · intro w hSw
    have hSw : Below wc.heap.size wc w := hSw
    obtain ⟨d0, d1, d2, d3, d4, d5, d6, d7⟩ := lit8 (keep HG15.out hSw)
    go_simp
  try simp only [Act.put, List.setIfInBounds_toArray, List.set_cons_zero, List.set_cons_succ]
  refine wpAnyH_takeG 16 (.bool false) rfl (by decide +kernel) (by decide +kernel) (by decide +kernel) (fun c a w h => hP c a _ _ w h) (by rfl) ?_ hbd ?_
  · intro w hSw
    go_simp
  try simp only [Act.put, List.setIfInBounds_toArray, List.set_cons_zero, List.set_cons_succ]
  refine wpAnyH_takeG 17 (.bool false) rfl (by decide +kernel) (by decide +kernel) (by decide +kernel) (fun c a w h => hP c a _ _ w h) (by rfl) ?_ hbd ?_
  · intro w hSw
    go_simp
  try simp only [Act.put, List.setIfInBounds_toArray, List.set_cons_zero, List.set_cons_succ]
  refine wpAnyH_takeG 18 (.bool false) rfl (by decide +kernel) (by decide +kernel) (by decide +kernel) (fun c a w h => hP c a _ _ w h) (by rfl) ?_ hbd ?_
  · intro w hSw
    go_simp
  try simp only [Act.put, List.setIfInBounds_toArray, List.set_cons_zero, List.set_cons_succ]
  refine wpAnyH_takeG 19 (.int .i64 i1) rfl (by decide +kernel) (by decide +kernel) (by decide +kernel) (fun c a w h => hP c a _ _ w h) (by rfl) ?_ hbd ?_
  · intro w hSw
    go_simp
  try simp only [Act.put, List.setIfInBounds_toArray, List.set_cons_zero, List.set_cons_succ]
  refine wpAnyH_takeG 20 (.int .i64 i1) rfl (by decide +kernel) (by decide +kernel) (by decide +kernel) (fun c a w h => hP c a _ _ w h) (by rfl) ?_ hbd ?_
  · intro w hSw
    go_simp
  try simp only [Act.put, List.setIfInBounds_toArray, List.set_cons_zero, List.set_cons_succ]
  refine wpAnyH_takeG 21 (.bool false) rfl (by decide +kernel) (by decide +kernel) (by decide +kernel) (fun c a w h => hP c a _ _ w h) (by rfl) ?_ hbd ?_
  · intro w hSw
    go_simp
  try simp only [Act.put, List.setIfInBounds_toArray, List.set_cons_zero, List.set_cons_succ]
  refine wpAnyH_takeG 22 (.bool false) rfl (by decide +kernel) (by decide +kernel) (by decide +kernel) (fun c a w h => hP c a _ _ w h) (by rfl) ?_ hbd ?_
  · intro w hSw
    go_simp
  try simp only [Act.put, List.setIfInBounds_toArray, List.set_cons_zero, List.set_cons_succ]
  refine wpAnyH_takeG 23 (.bool false) rfl (by decide +kernel) (by decide +kernel) (by decide +kernel) (fun c a w h => hP c a _ _ w h) (by rfl) ?_ hbd ?_
  · intro w hSw
    go_simp
  try simp only [Act.put, List.setIfInBounds_toArray, List.set_cons_zero, List.set_cons_succ]
  refine wpAnyH_takeG 24 (.int .i64 e1) rfl (by decide +kernel) (by decide +kernel) (by decide +kernel) (fun c a w h => hP c a _ _ w h) (by rfl) ?_ hbd ?_
  · intro w hSw
    go_simp
  try simp only [Act.put, List.setIfInBounds_toArray, List.set_cons_zero, List.set_cons_succ]
  refine wpAnyH_takeG 25 (.int .i64 e1) rfl (by decide +kernel) (by decide +kernel) (by decide +kernel) (fun c a w h => hP c a _ _ w h) (by rfl) ?_ hbd ?_
  · intro w hSw
    go_simp
  try simp only [Act.put, List.setIfInBounds_toArray, List.set_cons_zero, List.set_cons_succ]
  refine wpAnyH_takeG 26 (.bool false) rfl (by decide +kernel) (by decide +kernel) (by decide +kernel) (fun c a w h => hP c a _ _ w h) (by rfl) ?_ hbd ?_
  · intro w hSw
    go_simp
  try simp only [Act.put, List.setIfInBounds_toArray, List.set_cons_zero, List.set_cons_succ]
  refine wpAnyH_takeG 27 (.bool false) rfl (by decide +kernel) (by decide +kernel) (by decide +kernel) (fun c a w h => hP c a _ _ w h) (by rfl) ?_ hbd ?_
  · intro w hSw
    go_simp
  try simp only [Act.put, List.setIfInBounds_toArray, List.set_cons_zero, List.set_cons_succ]
  refine wpAnyH_takeG 28 (.bool false) rfl (by decide +kernel) (by decide +kernel) (by decide +kernel) (fun c a w h => hP c a _ _ w h) (by rfl) ?_ hbd ?_
  · intro w hSw
    go_simp
  try simp only [Act.put, List.setIfInBounds_toArray, List.set_cons_zero, List.set_cons_succ]
  refine wpAnyH_takeG 29 (v8 (X2 0) (X2 1) (X2 2) (X2 3) (Y2 0) (Y2 1) (Y2 2) (Y2 3)) rfl (by decide +kernel) (by decide +kernel) (by decide +kernel) (fun c a w h => hP c a _ _ w h) (by rfl) ?_ hbd ?_
  · intro w hSw
    have hSw : Below wc.heap.size wc w := hSw
    obtain ⟨d0, d1, d2, d3, d4, d5, d6, d7⟩ := lit8 (keep HG18.out hSw)
    go_simp
  try simp only [Act.put, List.setIfInBounds_toArray, List.set_cons_zero, List.set_cons_succ]
  refine wpAnyH_takeG 30 (v8 (X2 0) (X2 1) (X2 2) (X2 3) (Y2 0) (Y2 1) (Y2 2) (Y2 3)) rfl (by decide +kernel) (by decide +kernel) (by decide +kernel) (fun c a w h => hP c a _ _ w h) (by rfl) ?_ hbd ?_
  · intro w hSw
    have hSw : Below wc.heap.size wc w := hSw
    obtain ⟨d0, d1, d2, d3, d4, d5, d6, d7⟩ := lit8 (keep HG21.out hSw)
    go_simp
  try simp only [Act.put, List.setIfInBounds_toArray, List.set_cons_zero, List.set_cons_succ]
  refine wpAnyH_takeG 31 (.bool false) rfl (by decide +kernel) (by decide +kernel) (by decide +kernel) (fun c a w h => hP c a _ _ w h) (by rfl) ?_ hbd ?_
  · intro w hSw
    go_simp
  try simp only [Act.put, List.setIfInBounds_toArray, List.set_cons_zero, List.set_cons_succ]
  refine wpAnyH_takeG 32 (.bool false) rfl (by decide +kernel) (by decide +kernel) (by decide +kernel) (fun c a w h => hP c a _ _ w h) (by rfl) ?_ hbd ?_
  · intro w hSw
    go_simp
  try simp only [Act.put, List.setIfInBounds_toArray, List.set_cons_zero, List.set_cons_succ]
  refine wpAnyH_takeG 33 (.bool false) rfl (by decide +kernel) (by decide +kernel) (by decide +kernel) (fun c a w h => hP c a _ _ w h) (by rfl) ?_ hbd ?_
  · intro w hSw
    go_simp
  try simp only [Act.put, List.setIfInBounds_toArray, List.set_cons_zero, List.set_cons_succ]
  refine wpAnyH_takeG 34 (.int .i64 i2) rfl (by decide +kernel) (by decide +kernel) (by decide +kernel) (fun c a w h => hP c a _ _ w h) (by rfl) ?_ hbd ?_
  · intro w hSw
    go_simp
  try simp only [Act.put, List.setIfInBounds_toArray, List.set_cons_zero, List.set_cons_succ]
  refine wpAnyH_takeG 35 (.int .i64 i2) rfl (by decide +kernel) (by decide +kernel) (by decide +kernel) (fun c a w h => hP c a _ _ w h) (by rfl) ?_ hbd ?_
  · intro w hSw
    go_simp
  try simp only [Act.put, List.setIfInBounds_toArray, List.set_cons_zero, List.set_cons_succ]
  refine wpAnyH_takeG 36 (.bool false) rfl (by decide +kernel) (by decide +kernel) (by decide +kernel) (fun c a w h => hP c a _ _ w h) (by rfl) ?_ hbd ?_
  · intro w hSw
    go_simp
  try simp only [Act.put, List.setIfInBounds_toArray, List.set_cons_zero, List.set_cons_succ]
  refine wpAnyH_takeG 37 (.bool false) rfl (by decide +kernel) (by decide +kernel) (by decide +kernel) (fun c a w h => hP c a _ _ w h) (by rfl) ?_ hbd ?_
  · intro w hSw
    go_simp
  try simp only [Act.put, List.setIfInBounds_toArray, List.set_cons_zero, List.set_cons_succ]
  refine wpAnyH_takeG 38 (.bool false) rfl (by decide +kernel) (by decide +kernel) (by decide +kernel) (fun c a w h => hP c a _ _ w h) (by rfl) ?_ hbd ?_
  · intro w hSw
    go_simp
  try simp only [Act.put, List.setIfInBounds_toArray, List.set_cons_zero, List.set_cons_succ]
  refine wpAnyH_takeG 39 (.int .i64 e2) rfl (by decide +kernel) (by decide +kernel) (by decide +kernel) (fun c a w h => hP c a _ _ w h) (by rfl) ?_ hbd ?_
  · intro w hSw
    go_simp
  try simp only [Act.put, List.setIfInBounds_toArray, List.set_cons_zero, List.set_cons_succ]
  refine wpAnyH_takeG 40 (.int .i64 e2) rfl (by decide +kernel) (by decide +kernel) (by decide +kernel) (fun c a w h => hP c a _ _ w h) (by rfl) ?_ hbd ?_
  · intro w hSw
    go_simp
  try simp only [Act.put, List.setIfInBounds_toArray, List.set_cons_zero, List.set_cons_succ]
  refine wpAnyH_takeG 41 (.bool false) rfl (by decide +kernel) (by decide +kernel) (by decide +kernel) (fun c a w h => hP c a _ _ w h) (by rfl) ?_ hbd ?_
  · intro w hSw
    go_simp
  try simp only [Act.put, List.setIfInBounds_toArray, List.set_cons_zero, List.set_cons_succ]
  refine wpAnyH_takeG 42 (.bool false) rfl (by decide +kernel) (by decide +kernel) (by decide +kernel) (fun c a w h => hP c a _ _ w h) (by rfl) ?_ hbd ?_
  · intro w hSw
    go_simp
  try simp only [Act.put, List.setIfInBounds_toArray, List.set_cons_zero, List.set_cons_succ]
  refine wpAnyH_done (by decide +kernel) ?_ _
  exact HQ.out rb cb ck _ hbd
end Go.Proofs.Ytppfhcocmpmadaa
