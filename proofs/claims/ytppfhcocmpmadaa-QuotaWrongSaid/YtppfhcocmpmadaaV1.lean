/- The law QuotaWrong: region 14, which draws its order, as a theorem of its own. -/
import Derived.Test.YtppfhcocmpmadaaC0
import Derived.Test.YtppfhcocmpmadaaPW
import Derived.Test.YtppfhcocmpmadaaD
namespace Go.Proofs.Ytppfhcocmpmadaa
open Go.RowKit
set_option linter.unusedVariables false

def regOf (n : Nat) : Code → Option Code
  | .region id ops b => if id = n then some (.region id ops b) else none
  | .seq a b => match regOf n a with
    | some c => some c
    | none => regOf n b
  | .block _ c => regOf n c
  | .loop c => regOf n c
  | .scope c => regOf n c
  | .cond _ a b => match regOf n a with
    | some c => some c
    | none => regOf n b
  | _ => none
noncomputable def piece14 : Code := ((Try.f8.body.bind (regOf 14)).getD .skip)

set_option maxRecDepth 1000000 in
set_option maxHeartbeats 8000000 in
theorem r14 (q n x1 x2 x3 x4 y1 y2 : Int) (rn : Nat) (va' : Option Addr) (vc' : Nat) (cs : List (Int × Int)) (wc : World) (q0 : 0 ≤ q) (q1 : q ≤ 255) (hlen : cs.length ≤ 60) (hx1 : (if -1 < n then -1 else n) = x1) (hx2 : (if n < 4 then 4 else n) = x2) (hx3 : (if -1099511627777 < n then -1099511627777 else n) = x3) (hx4 : (if n < 1099511627777 then 1099511627777 else n) = x4) (hr2 : Int.tmod q 4 = (rn : Int)) (r1 : (rn : Int) < 4)
    (HYL : Hd ((#[.int .i64 x1, .int .i64 0, .int .i64 x2, .int .i64 0, .int .i64 0, .int .i64 x3, .int .i64 0, .int .i64 x4] : Array Value)[rn * 2]? = some (.int .i64 y1) ∧ (#[.int .i64 x1, .int .i64 0, .int .i64 x2, .int .i64 0, .int .i64 0, .int .i64 x3, .int .i64 0, .int .i64 x4] : Array Value)[rn * 2 + 1]? = some (.int .i64 y2)))
    (SV_5 : Hd (SrcC wc (.slice va' cs.length vc') cs)) (Q : Exit → Act → World → Prop) (hP : ∀ c (a : Act) (t : Tmp) v w, Q (.panic c) (a.put (some t) v) w → Q (.panic c) a w)
    {c0 c1 c2 c5 c6 c7 c8 c9 c10 c11 c13 c14 c15 c16 c17 c18 c19 c20 c21 c22 c23 c24 c25 c26 c27 c28 c29 c30 c31 c32 c33 c34 c35 c36 c37 c38 c39 c40 c41 c42 c43 c44 c45 c46 c47 c48 c49 c50 c51 c52 c53 c54 c55 c56 c57 c58 c59 c60 c61 c62 c63 c64 c65 c66 c67 c68 c69 c70 c71 c72 c73 c74 c75 c76 c77 c78 c79 c80 c81 c82 c83 c84 c85 c86 c87 c88 c89 c90 c91 c92 c93 c94 c95 c96 c97 c98 c99 c100 c101 c102 c103 c104 c105 c106 c107 c108 c109 c110 c111 c112 c113 c114 c115 c116 c117 c118 c119 c120 c121 c122 c123 c124 c125 c126 c127 c128 c129 c130 c131 c132 c133 c134 c135 c136 c137 c138 c139 c140 c141 c142 c143 c144 c145 c146 c147 c148 c149 c150 c151 c152 c153 c154 c155 c156 c157 c158 c159 c160 c161 c162 c163 c164 c165 c166 c167 c168 c169 c170 c171 c172 c173 c174 c175 c176 c177 c178 c179 c180 c181 c182 c183 c184 c185 c186 c187 c188 c189 c190 c191 c192 c193 c194 c195 c196 c197 c198 c199 c200 c201 c202 c203 c204 c205 c206 c207 c208 c209 c210 c211 c212 c213 c214 c215 c216 c217 c218 c219 c220 c221 c222 c223 c224 c225 c226 c227 c228 c229 c230 c231 c232 c233 c234 c235 c236 c237 c238 c239 c240 c241 c242 c243 c244 c245 c246 c247 c248 c249 c250 c251 c252 c253 c254 c255 c256 c257 c258 c259 c260 c261 c262 c263 c264 c265 c266 c267 c268 c269 c270 c271 c272 c273 c274 c275 c276 c277 c278 c279 c280 c281 c282 c283 c284 c285 c286 c287 c288 c289 c290 c291 c292 c293 c294 c295 c296 c297 c298 c299 c300 c301 c302 c303 c304 c305 c306 c307 c308 c309 c310 c311 c312 c313 c314 c315 c316 : Value}
    (hQ : ∀ (b0 b4 bX : Nat) (v2 : Value) (a3 : Option Addr) (c3 : Nat) (wx : World), SrcC wx (.slice a3 (cs.length + 1) c3) (cs ++ [(y1, y2)]) → Below wc.heap.size wc wx → Q .normal ⟨#[c0, c1, c2, .int .u8 q, .int .i64 n, c5, c6, c7, c8, c9, c10, c11, .slice va' cs.length vc', c13, c14, .slice a3 (cs.length + 1) c3, c16, c17, c18, c19, c20, c21, c22, c23, c24, c25, c26, c27, c28, c29, c30, c31, c32, c33, c34, c35, c36, c37, c38, c39, c40, c41, c42, c43, c44, c45, c46, c47, c48, c49, c50, c51, c52, c53, c54, c55, c56, c57, c58, c59, c60, c61, c62, c63, c64, c65, c66, c67, c68, c69, c70, c71, c72, c73, c74, c75, c76, c77, c78, c79, c80, c81, c82, c83, c84, c85, c86, c87, c88, c89, c90, c91, c92, c93, c94, c95, c96, c97, .slice (some ⟨b0, 0, none⟩) 0 0, .slice va' cs.length vc', v2, .int .i64 n, .int .i64 x1, .agg #[.int .i64 x1, .int .i64 0], .int .i64 n, .int .i64 x2, .agg #[.int .i64 x2, .int .i64 0], .int .i64 n, .int .i64 x3, .agg #[.int .i64 0, .int .i64 x3], .int .i64 n, .int .i64 x4, .agg #[.int .i64 0, .int .i64 x4], .slice (some ⟨b4, 0, none⟩) 4 4, .int .u8 q, .int .u8 (rn : Int), .pointer (some ⟨b4, rn * 2, none⟩), .agg #[.int .i64 y1, .int .i64 y2], .slice (some ⟨bX, 0, none⟩) 1 1, .slice a3 (cs.length + 1) c3, c120, c121, c122, c123, c124, c125, c126, c127, c128, c129, c130, c131, c132, c133, c134, c135, c136, c137, c138, c139, c140, c141, c142, c143, c144, c145, c146, c147, c148, c149, c150, c151, c152, c153, c154, c155, c156, c157, c158, c159, c160, c161, c162, c163, c164, c165, c166, c167, c168, c169, c170, c171, c172, c173, c174, c175, c176, c177, c178, c179, c180, c181, c182, c183, c184, c185, c186, c187, c188, c189, c190, c191, c192, c193, c194, c195, c196, c197, c198, c199, c200, c201, c202, c203, c204, c205, c206, c207, c208, c209, c210, c211, c212, c213, c214, c215, c216, c217, c218, c219, c220, c221, c222, c223, c224, c225, c226, c227, c228, c229, c230, c231, c232, c233, c234, c235, c236, c237, c238, c239, c240, c241, c242, c243, c244, c245, c246, c247, c248, c249, c250, c251, c252, c253, c254, c255, c256, c257, c258, c259, c260, c261, c262, c263, c264, c265, c266, c267, c268, c269, c270, c271, c272, c273, c274, c275, c276, c277, c278, c279, c280, c281, c282, c283, c284, c285, c286, c287, c288, c289, c290, c291, c292, c293, c294, c295, c296, c297, c298, c299, c300, c301, c302, c303, c304, c305, c306, c307, c308, c309, c310, c311, c312, c313, c314, c315, c316], []⟩ wx) :
    Code.wp Try.prog piece14 Q ⟨#[c0, c1, c2, .int .u8 q, .int .i64 n, c5, c6, c7, c8, c9, c10, c11, .slice va' cs.length vc', c13, c14, c15, c16, c17, c18, c19, c20, c21, c22, c23, c24, c25, c26, c27, c28, c29, c30, c31, c32, c33, c34, c35, c36, c37, c38, c39, c40, c41, c42, c43, c44, c45, c46, c47, c48, c49, c50, c51, c52, c53, c54, c55, c56, c57, c58, c59, c60, c61, c62, c63, c64, c65, c66, c67, c68, c69, c70, c71, c72, c73, c74, c75, c76, c77, c78, c79, c80, c81, c82, c83, c84, c85, c86, c87, c88, c89, c90, c91, c92, c93, c94, c95, c96, c97, c98, c99, c100, c101, c102, c103, c104, c105, c106, c107, c108, c109, c110, c111, c112, c113, c114, c115, c116, c117, c118, c119, c120, c121, c122, c123, c124, c125, c126, c127, c128, c129, c130, c131, c132, c133, c134, c135, c136, c137, c138, c139, c140, c141, c142, c143, c144, c145, c146, c147, c148, c149, c150, c151, c152, c153, c154, c155, c156, c157, c158, c159, c160, c161, c162, c163, c164, c165, c166, c167, c168, c169, c170, c171, c172, c173, c174, c175, c176, c177, c178, c179, c180, c181, c182, c183, c184, c185, c186, c187, c188, c189, c190, c191, c192, c193, c194, c195, c196, c197, c198, c199, c200, c201, c202, c203, c204, c205, c206, c207, c208, c209, c210, c211, c212, c213, c214, c215, c216, c217, c218, c219, c220, c221, c222, c223, c224, c225, c226, c227, c228, c229, c230, c231, c232, c233, c234, c235, c236, c237, c238, c239, c240, c241, c242, c243, c244, c245, c246, c247, c248, c249, c250, c251, c252, c253, c254, c255, c256, c257, c258, c259, c260, c261, c262, c263, c264, c265, c266, c267, c268, c269, c270, c271, c272, c273, c274, c275, c276, c277, c278, c279, c280, c281, c282, c283, c284, c285, c286, c287, c288, c289, c290, c291, c292, c293, c294, c295, c296, c297, c298, c299, c300, c301, c302, c303, c304, c305, c306, c307, c308, c309, c310, c311, c312, c313, c314, c315, c316], []⟩ wc := by
  have HQ := Hd.mk hQ
  have hr' := hr2
  clear hQ
  conv => arg 2; whnf
  refine wp_region_held_drew (S := fun _ => True) (by kernel_rfl) trivial (fun _ => ?_)
  refine wpAnyH_takeL 1 (.slice va' cs.length vc') rfl (by decide +kernel) (by decide +kernel) (by decide +kernel) (fun c a w h => hP c a _ _ w h) rfl ?_ trivial ?_
  · intro w hSw
    go_simp
  simp only [Act.put, List.setIfInBounds_toArray, List.set_cons_zero, List.set_cons_succ]
  refine wpAnyH_takeL 3 (.int .i64 n) rfl (by decide +kernel) (by decide +kernel) (by decide +kernel) (fun c a w h => hP c a _ _ w h) rfl ?_ trivial ?_
  · intro w hSw
    go_simp
  simp only [Act.put, List.setIfInBounds_toArray, List.set_cons_zero, List.set_cons_succ]
  refine wpAnyH_takeL 6 (.int .i64 n) rfl (by decide +kernel) (by decide +kernel) (by decide +kernel) (fun c a w h => hP c a _ _ w h) rfl ?_ trivial ?_
  · intro w hSw
    go_simp
  simp only [Act.put, List.setIfInBounds_toArray, List.set_cons_zero, List.set_cons_succ]
  refine wpAnyH_takeL 9 (.int .i64 n) rfl (by decide +kernel) (by decide +kernel) (by decide +kernel) (fun c a w h => hP c a _ _ w h) rfl ?_ trivial ?_
  · intro w hSw
    go_simp
  simp only [Act.put, List.setIfInBounds_toArray, List.set_cons_zero, List.set_cons_succ]
  refine wpAnyH_takeL 12 (.int .i64 n) rfl (by decide +kernel) (by decide +kernel) (by decide +kernel) (fun c a w h => hP c a _ _ w h) rfl ?_ trivial ?_
  · intro w hSw
    go_simp
  simp only [Act.put, List.setIfInBounds_toArray, List.set_cons_zero, List.set_cons_succ]
  refine wpAnyH_takeL 4 (.int .i64 x1) rfl (by decide +kernel) (by decide +kernel) (by decide +kernel) (fun c a w h => hP c a _ _ w h) rfl ?_ trivial ?_
  · intro w hSw
    go_simp
  simp only [Act.put, List.setIfInBounds_toArray, List.set_cons_zero, List.set_cons_succ]
  refine wpAnyH_takeL 7 (.int .i64 x2) rfl (by decide +kernel) (by decide +kernel) (by decide +kernel) (fun c a w h => hP c a _ _ w h) rfl ?_ trivial ?_
  · intro w hSw
    go_simp
  simp only [Act.put, List.setIfInBounds_toArray, List.set_cons_zero, List.set_cons_succ]
  refine wpAnyH_takeL 10 (.int .i64 x3) rfl (by decide +kernel) (by decide +kernel) (by decide +kernel) (fun c a w h => hP c a _ _ w h) rfl ?_ trivial ?_
  · intro w hSw
    go_simp
  simp only [Act.put, List.setIfInBounds_toArray, List.set_cons_zero, List.set_cons_succ]
  refine wpAnyH_takeL 13 (.int .i64 x4) rfl (by decide +kernel) (by decide +kernel) (by decide +kernel) (fun c a w h => hP c a _ _ w h) rfl ?_ trivial ?_
  · intro w hSw
    go_simp
  simp only [Act.put, List.setIfInBounds_toArray, List.set_cons_zero, List.set_cons_succ]
  refine wpAnyH_takeL 5 (.agg #[.int .i64 x1, .int .i64 0]) rfl (by decide +kernel) (by decide +kernel) (by decide +kernel) (fun c a w h => hP c a _ _ w h) rfl ?_ trivial ?_
  · intro w hSw
    go_simp
  simp only [Act.put, List.setIfInBounds_toArray, List.set_cons_zero, List.set_cons_succ]
  refine wpAnyH_takeL 8 (.agg #[.int .i64 x2, .int .i64 0]) rfl (by decide +kernel) (by decide +kernel) (by decide +kernel) (fun c a w h => hP c a _ _ w h) rfl ?_ trivial ?_
  · intro w hSw
    go_simp
  simp only [Act.put, List.setIfInBounds_toArray, List.set_cons_zero, List.set_cons_succ]
  refine wpAnyH_takeL 11 (.agg #[.int .i64 0, .int .i64 x3]) rfl (by decide +kernel) (by decide +kernel) (by decide +kernel) (fun c a w h => hP c a _ _ w h) rfl ?_ trivial ?_
  · intro w hSw
    go_simp
  simp only [Act.put, List.setIfInBounds_toArray, List.set_cons_zero, List.set_cons_succ]
  refine wpAnyH_takeL 14 (.agg #[.int .i64 0, .int .i64 x4]) rfl (by decide +kernel) (by decide +kernel) (by decide +kernel) (fun c a w h => hP c a _ _ w h) rfl ?_ trivial ?_
  · intro w hSw
    go_simp
  simp only [Act.put, List.setIfInBounds_toArray, List.set_cons_zero, List.set_cons_succ]
  refine wpAnyH_takeL 16 (.int .u8 q) rfl (by decide +kernel) (by decide +kernel) (by decide +kernel) (fun c a w h => hP c a _ _ w h) rfl ?_ trivial ?_
  · intro w hSw
    go_simp
  simp only [Act.put, List.setIfInBounds_toArray, List.set_cons_zero, List.set_cons_succ]
  refine wpAnyH_takeL 17 (.int .u8 (rn : Int)) rfl (by decide +kernel) (by decide +kernel) (by decide +kernel) (fun c a w h => hP c a _ _ w h) rfl ?_ trivial ?_
  · intro w hSw
    go_simp
  simp only [Act.put, List.setIfInBounds_toArray, List.set_cons_zero, List.set_cons_succ]
  clear hx1 hx2 hx3 hx4 hr' hr2 q0 q1
  obtain ⟨Wd, hWd⟩ : ∃ x, x = wc.drew := ⟨_, rfl⟩
  have hb_ : Below wc.heap.size wc Wd := by rw [hWd]; exact (Below.refl _ _).drew
  rw [← hWd]
  clear hWd
  have k0 : (0 : Int) ≤ (rn : Int) := by omega
  have k1 : (rn : Int) < 4 := by omega
  refine' join_of (F := fun W v2 b0 b4 bX => Below wc.heap.size wc W ∧ OwnC W wc.heap.size 32 v2 cs ∧ some b4 ≠ v2.ownBlock ∧ W.cell? ⟨b4, rn * 2, none⟩ = some (.int .i64 y1) ∧ W.cell? ⟨b4, rn * 2 + 1, none⟩ = some (.int .i64 y2) ∧ SrcC W (.slice (some ⟨bX, 0, none⟩) 1 1) [(y1, y2)]) ?main ?pf
  case main =>
    intro hjoin
    refine wpAnyH_ready (rs := [0, 15]) (by decide +kernel) (by simp) ?_
    refine allReadyH_consL rfl (fun K hK => ?_) ?_
    · go_simp
      obtain ⟨W_1, hW⟩ : ∃ x, x = Wd.alloc (.cells #[] 32) := ⟨_, rfl⟩
      have hX : Below Wd.heap.size Wd W_1 := by rw [hW]; exact (Below.refl _ _).alloc (Nat.le_refl _) _
      have hb_1 := ch4 hb_ hX
      have hsz : W_1.heap.size = Wd.heap.size + 1 := by rw [hW]; simp
      obtain ⟨b0, hb0⟩ : ∃ x, x = Wd.heap.size := ⟨_, rfl⟩
      have own0n : OwnC W_1 wc.heap.size 32 (.slice (some ⟨b0, 0, none⟩) 0 0) [] := by rw [hW, hb0]; exact OwnC.made _ _ _ hb_.size
      have l0n : b0 < W_1.heap.size := by omega
      rw [← hW, ← hb0]
      refine hK.out _ _ trivial (fun _ => ?_)
      clear hK K hW hX hb0
      try simp only [Act.put, List.setIfInBounds_toArray, List.set_cons_zero, List.set_cons_succ]
      have own0 := own0n
      have l0 := l0n
      clear own0n l0n hsz
      refine wpAnyH_ready (rs := [2, 15]) (by decide +kernel) (by simp) ?_
      refine allReadyH_consL rfl (fun K hK => ?_) ?_
      · refine step_append_c rfl _ _ rfl rfl (by rfl) (by rfl) own0 hb_1.size (SV_5.out.below hb_1) (by have := hlen; simp; omega) ?_
        intro v2 W_2 own2n hg hat
        have hb_2 := own0.grown hb_1 hb_1.size hg
        have hgs := hg.size
        rw [List.nil_append] at own2n
        refine hK.out _ _ trivial (fun _ => ?_)
        clear hK K hg hgs hat own0 l0
        try simp only [Act.put, List.setIfInBounds_toArray, List.set_cons_zero, List.set_cons_succ]
        have own2 := own2n
        clear own2n
        refine wpAnyH_ready (rs := [15]) (by decide +kernel) (by simp) ?_
        refine allReadyH_consL rfl (fun K hK => ?_) ?_
        · go_simp
          obtain ⟨W_3, hW⟩ : ∃ x, x = W_2.alloc (.cells #[.int .i64 x1, .int .i64 0, .int .i64 x2, .int .i64 0, .int .i64 0, .int .i64 x3, .int .i64 0, .int .i64 x4] 32) := ⟨_, rfl⟩
          have hX : Below W_2.heap.size W_2 W_3 := by rw [hW]; exact (Below.refl _ _).alloc (Nat.le_refl _) _
          have hb_3 := ch4 hb_2 hX
          have hsz : W_3.heap.size = W_2.heap.size + 1 := by rw [hW]; simp
          have own2' : OwnC W_3 wc.heap.size 32 v2 cs := by rw [hW]; exact own2.alloc _
          obtain ⟨b4, hb4⟩ : ∃ x, x = W_2.heap.size := ⟨_, rfl⟩
          have hc4 : W_3.heap[b4]? = some (.cells #[.int .i64 x1, .int .i64 0, .int .i64 x2, .int .i64 0, .int .i64 0, .int .i64 x3, .int .i64 0, .int .i64 x4] 32 (0, 0)) := by rw [hW, hb4]; exact World.alloc_heap_new _ _
          obtain ⟨hp1, hp2⟩ := HYL.out
          have c1n : W_3.cell? ⟨b4, rn * 2, none⟩ = some (.int .i64 y1) := (cells_cell hc4 _).trans hp1
          have c2n : W_3.cell? ⟨b4, rn * 2 + 1, none⟩ = some (.int .i64 y2) := (cells_cell hc4 _).trans hp2
          have l4n : b4 < W_3.heap.size := by omega
          have nv2 : some b4 ≠ v2.ownBlock := fun h => by have := (World.ownsRow.lt own2 b4 h.symm).2; omega
          rw [← hW, ← hb4]
          refine hK.out _ _ trivial (fun _ => ?_)
          clear hK K hW hX hb4 hc4 hp1 hp2
          try simp only [Act.put, List.setIfInBounds_toArray, List.set_cons_zero, List.set_cons_succ]
          clear own2
          have own2 := own2'
          clear own2'
          have c1 := c1n
          have c2 := c2n
          have l4 := l4n
          clear c1n c2n l4n hsz
          refine wpAnyH_strong (S' := fun W => W.cell? ⟨b4, rn * 2, none⟩ = some (.int .i64 y1) ∧ W.cell? ⟨b4, rn * 2 + 1, none⟩ = some (.int .i64 y2)) (fun _ _ => trivial) _ _ _ _ ?_
          refine wpAnyH_takeL 18 (.pointer (some ⟨b4, rn * 2, none⟩)) rfl (by decide +kernel) (by decide +kernel) (by decide +kernel) (fun c a w h => hP c a _ _ w h) rfl ?_ ⟨c1, c2⟩ ?_
          · intro w hSw
            clear c1 c2 hSw
            go_simp
          simp only [Act.put, List.setIfInBounds_toArray, List.set_cons_zero, List.set_cons_succ]
          refine wpAnyH_takeL 19 (.agg #[.int .i64 y1, .int .i64 y2]) rfl (by decide +kernel) (by decide +kernel) (by decide +kernel) (fun c a w h => hP c a _ _ w h) rfl ?_ ⟨c1, c2⟩ ?_
          · intro w hSw
            obtain ⟨d1, d2⟩ := hSw
            go_simp
          simp only [Act.put, List.setIfInBounds_toArray, List.set_cons_zero, List.set_cons_succ]
          refine wpAnyH_ready (rs := [20]) (by decide +kernel) (by simp) ?_
          refine allReadyH_consL rfl (fun K hK => ?_) ?_
          · go_simp
            obtain ⟨W_4, hW⟩ : ∃ x, x = W_3.alloc (.cells #[.int .i64 y1, .int .i64 y2] 32) := ⟨_, rfl⟩
            have hX : Below W_3.heap.size W_3 W_4 := by rw [hW]; exact (Below.refl _ _).alloc (Nat.le_refl _) _
            have hb_4 := ch4 hb_3 hX
            have hsz : W_4.heap.size = W_3.heap.size + 1 := by rw [hW]; simp
            have own2' : OwnC W_4 wc.heap.size 32 v2 cs := by rw [hW]; exact own2.alloc _
            have c1' := (hX.cell (p := ⟨b4, rn * 2, none⟩) (World.block_lt_of_cell? _ _ c1)).trans c1
            have c2' := (hX.cell (p := ⟨b4, rn * 2 + 1, none⟩) (World.block_lt_of_cell? _ _ c2)).trans c2
            have l4' : b4 < W_4.heap.size := by omega
            obtain ⟨bX, hbX⟩ : ∃ x, x = W_3.heap.size := ⟨_, rfl⟩
            have sXn : SrcC W_4 (.slice (some ⟨bX, 0, none⟩) 1 1) [(y1, y2)] := by rw [hW, hbX]; exact srcLit _ [(y1, y2)] (by simp)
            have lXn : bX < W_4.heap.size := by omega
            rw [← hW, ← hbX]
            refine hK.out _ _ ⟨c1', c2'⟩ (fun _ => ?_)
            clear hK K hW hX hbX
            try simp only [Act.put, List.setIfInBounds_toArray, List.set_cons_zero, List.set_cons_succ]
            clear own2
            have own2 := own2'
            clear own2'
            clear c1 c2 l4
            have c1 := c1'
            have c2 := c2'
            have l4 := l4'
            clear c1' c2' l4'
            have sX := sXn
            have lX := lXn
            clear sXn lXn hsz
            refine wpAnyH_relist #[true, true, true, true, true, true, true, true, true, true, true, true, true, true, true, true, true, true, true, true, true, false, false] (by decide +kernel) ?_
            exact hjoin W_4 v2 b0 b4 bX ⟨hb_4, own2, nv2, c1, c2, sX⟩
          exact AllReadyH.nil
        exact AllReadyH.nil
      refine allReadyH_consL rfl (fun K hK => ?_) ?_
      · go_simp
        obtain ⟨W_5, hW⟩ : ∃ x, x = W_1.alloc (.cells #[.int .i64 x1, .int .i64 0, .int .i64 x2, .int .i64 0, .int .i64 0, .int .i64 x3, .int .i64 0, .int .i64 x4] 32) := ⟨_, rfl⟩
        have hX : Below W_1.heap.size W_1 W_5 := by rw [hW]; exact (Below.refl _ _).alloc (Nat.le_refl _) _
        have hb_5 := ch4 hb_1 hX
        have hsz : W_5.heap.size = W_1.heap.size + 1 := by rw [hW]; simp
        have own0' : OwnC W_5 wc.heap.size 32 (.slice (some ⟨b0, 0, none⟩) 0 0) [] := by rw [hW]; exact own0.alloc _
        have l0' : b0 < W_5.heap.size := by omega
        obtain ⟨b4, hb4⟩ : ∃ x, x = W_1.heap.size := ⟨_, rfl⟩
        have hc4 : W_5.heap[b4]? = some (.cells #[.int .i64 x1, .int .i64 0, .int .i64 x2, .int .i64 0, .int .i64 0, .int .i64 x3, .int .i64 0, .int .i64 x4] 32 (0, 0)) := by rw [hW, hb4]; exact World.alloc_heap_new _ _
        obtain ⟨hp1, hp2⟩ := HYL.out
        have c1n : W_5.cell? ⟨b4, rn * 2, none⟩ = some (.int .i64 y1) := (cells_cell hc4 _).trans hp1
        have c2n : W_5.cell? ⟨b4, rn * 2 + 1, none⟩ = some (.int .i64 y2) := (cells_cell hc4 _).trans hp2
        have l4n : b4 < W_5.heap.size := by omega
        have n4 : b4 ≠ b0 := by omega
        rw [← hW, ← hb4]
        refine hK.out _ _ trivial (fun _ => ?_)
        clear hK K hW hX hb4 hc4 hp1 hp2
        try simp only [Act.put, List.setIfInBounds_toArray, List.set_cons_zero, List.set_cons_succ]
        clear own0 l0
        have own0 := own0'
        have l0 := l0'
        clear own0' l0'
        have c1 := c1n
        have c2 := c2n
        have l4 := l4n
        clear c1n c2n l4n hsz
        refine wpAnyH_strong (S' := fun W => W.cell? ⟨b4, rn * 2, none⟩ = some (.int .i64 y1) ∧ W.cell? ⟨b4, rn * 2 + 1, none⟩ = some (.int .i64 y2)) (fun _ _ => trivial) _ _ _ _ ?_
        refine wpAnyH_takeL 18 (.pointer (some ⟨b4, rn * 2, none⟩)) rfl (by decide +kernel) (by decide +kernel) (by decide +kernel) (fun c a w h => hP c a _ _ w h) rfl ?_ ⟨c1, c2⟩ ?_
        · intro w hSw
          clear c1 c2 hSw
          go_simp
        simp only [Act.put, List.setIfInBounds_toArray, List.set_cons_zero, List.set_cons_succ]
        refine wpAnyH_takeL 19 (.agg #[.int .i64 y1, .int .i64 y2]) rfl (by decide +kernel) (by decide +kernel) (by decide +kernel) (fun c a w h => hP c a _ _ w h) rfl ?_ ⟨c1, c2⟩ ?_
        · intro w hSw
          obtain ⟨d1, d2⟩ := hSw
          go_simp
        simp only [Act.put, List.setIfInBounds_toArray, List.set_cons_zero, List.set_cons_succ]
        refine wpAnyH_ready (rs := [2, 20]) (by decide +kernel) (by simp) ?_
        refine allReadyH_consL rfl (fun K hK => ?_) ?_
        · refine step_append_c rfl _ _ rfl rfl (by rfl) (by rfl) own0 hb_5.size (SV_5.out.below hb_5) (by have := hlen; simp; omega) ?_
          intro v2 W_6 own2n hg hat
          have hb_6 := own0.grown hb_5 hb_5.size hg
          have hgs := hg.size
          rw [List.nil_append] at own2n
          have c1' := cell_kept c1 hg (by simp only [Value.ownBlock]; simpa using n4)
          have c2' := cell_kept c2 hg (by simp only [Value.ownBlock]; simpa using n4)
          have l4' : b4 < W_6.heap.size := by omega
          have nv2 : some b4 ≠ v2.ownBlock := by
            intro h
            rcases hat with h' | h' <;> rw [h'] at h <;> simp only [Value.ownBlock, Option.some.injEq] at h <;> omega
          refine hK.out _ _ ⟨c1', c2'⟩ (fun _ => ?_)
          clear hK K hg hgs hat own0 l0
          try simp only [Act.put, List.setIfInBounds_toArray, List.set_cons_zero, List.set_cons_succ]
          clear c1 c2 l4
          have c1 := c1'
          have c2 := c2'
          have l4 := l4'
          clear c1' c2' l4'
          have own2 := own2n
          clear own2n
          refine wpAnyH_ready (rs := [20]) (by decide +kernel) (by simp) ?_
          refine allReadyH_consL rfl (fun K hK => ?_) ?_
          · go_simp
            obtain ⟨W_7, hW⟩ : ∃ x, x = W_6.alloc (.cells #[.int .i64 y1, .int .i64 y2] 32) := ⟨_, rfl⟩
            have hX : Below W_6.heap.size W_6 W_7 := by rw [hW]; exact (Below.refl _ _).alloc (Nat.le_refl _) _
            have hb_7 := ch4 hb_6 hX
            have hsz : W_7.heap.size = W_6.heap.size + 1 := by rw [hW]; simp
            have own2' : OwnC W_7 wc.heap.size 32 v2 cs := by rw [hW]; exact own2.alloc _
            have c1' := (hX.cell (p := ⟨b4, rn * 2, none⟩) (World.block_lt_of_cell? _ _ c1)).trans c1
            have c2' := (hX.cell (p := ⟨b4, rn * 2 + 1, none⟩) (World.block_lt_of_cell? _ _ c2)).trans c2
            have l4' : b4 < W_7.heap.size := by omega
            obtain ⟨bX, hbX⟩ : ∃ x, x = W_6.heap.size := ⟨_, rfl⟩
            have sXn : SrcC W_7 (.slice (some ⟨bX, 0, none⟩) 1 1) [(y1, y2)] := by rw [hW, hbX]; exact srcLit _ [(y1, y2)] (by simp)
            have lXn : bX < W_7.heap.size := by omega
            rw [← hW, ← hbX]
            refine hK.out _ _ ⟨c1', c2'⟩ (fun _ => ?_)
            clear hK K hW hX hbX
            try simp only [Act.put, List.setIfInBounds_toArray, List.set_cons_zero, List.set_cons_succ]
            clear own2
            have own2 := own2'
            clear own2'
            clear c1 c2 l4
            have c1 := c1'
            have c2 := c2'
            have l4 := l4'
            clear c1' c2' l4'
            have sX := sXn
            have lX := lXn
            clear sXn lXn hsz
            refine wpAnyH_relist #[true, true, true, true, true, true, true, true, true, true, true, true, true, true, true, true, true, true, true, true, true, false, false] (by decide +kernel) ?_
            exact hjoin W_7 v2 b0 b4 bX ⟨hb_7, own2, nv2, c1, c2, sX⟩
          exact AllReadyH.nil
        refine allReadyH_consL rfl (fun K hK => ?_) ?_
        · go_simp
          obtain ⟨W_8, hW⟩ : ∃ x, x = W_5.alloc (.cells #[.int .i64 y1, .int .i64 y2] 32) := ⟨_, rfl⟩
          have hX : Below W_5.heap.size W_5 W_8 := by rw [hW]; exact (Below.refl _ _).alloc (Nat.le_refl _) _
          have hb_8 := ch4 hb_5 hX
          have hsz : W_8.heap.size = W_5.heap.size + 1 := by rw [hW]; simp
          have own0' : OwnC W_8 wc.heap.size 32 (.slice (some ⟨b0, 0, none⟩) 0 0) [] := by rw [hW]; exact own0.alloc _
          have l0' : b0 < W_8.heap.size := by omega
          have c1' := (hX.cell (p := ⟨b4, rn * 2, none⟩) (World.block_lt_of_cell? _ _ c1)).trans c1
          have c2' := (hX.cell (p := ⟨b4, rn * 2 + 1, none⟩) (World.block_lt_of_cell? _ _ c2)).trans c2
          have l4' : b4 < W_8.heap.size := by omega
          obtain ⟨bX, hbX⟩ : ∃ x, x = W_5.heap.size := ⟨_, rfl⟩
          have sXn : SrcC W_8 (.slice (some ⟨bX, 0, none⟩) 1 1) [(y1, y2)] := by rw [hW, hbX]; exact srcLit _ [(y1, y2)] (by simp)
          have lXn : bX < W_8.heap.size := by omega
          have nX : bX ≠ b0 := by omega
          rw [← hW, ← hbX]
          refine hK.out _ _ ⟨c1', c2'⟩ (fun _ => ?_)
          clear hK K hW hX hbX
          try simp only [Act.put, List.setIfInBounds_toArray, List.set_cons_zero, List.set_cons_succ]
          clear own0 l0
          have own0 := own0'
          have l0 := l0'
          clear own0' l0'
          clear c1 c2 l4
          have c1 := c1'
          have c2 := c2'
          have l4 := l4'
          clear c1' c2' l4'
          have sX := sXn
          have lX := lXn
          clear sXn lXn hsz
          refine wpAnyH_ready (rs := [2]) (by decide +kernel) (by simp) ?_
          refine allReadyH_consL rfl (fun K hK => ?_) ?_
          · refine step_append_c rfl _ _ rfl rfl (by rfl) (by rfl) own0 hb_8.size (SV_5.out.below hb_8) (by have := hlen; simp; omega) ?_
            intro v2 W_9 own2n hg hat
            have hb_9 := own0.grown hb_8 hb_8.size hg
            have hgs := hg.size
            rw [List.nil_append] at own2n
            have c1' := cell_kept c1 hg (by simp only [Value.ownBlock]; simpa using n4)
            have c2' := cell_kept c2 hg (by simp only [Value.ownBlock]; simpa using n4)
            have l4' : b4 < W_9.heap.size := by omega
            have sX' := sX.kept hg (by simp only [Value.ownBlock]; simpa using nX)
            have lX' : bX < W_9.heap.size := by omega
            have nv2 : some b4 ≠ v2.ownBlock := by
              intro h
              rcases hat with h' | h' <;> rw [h'] at h <;> simp only [Value.ownBlock, Option.some.injEq] at h <;> omega
            refine hK.out _ _ ⟨c1', c2'⟩ (fun _ => ?_)
            clear hK K hg hgs hat own0 l0
            try simp only [Act.put, List.setIfInBounds_toArray, List.set_cons_zero, List.set_cons_succ]
            clear c1 c2 l4
            have c1 := c1'
            have c2 := c2'
            have l4 := l4'
            clear c1' c2' l4'
            clear sX lX
            have sX := sX'
            have lX := lX'
            clear sX' lX'
            have own2 := own2n
            clear own2n
            refine wpAnyH_relist #[true, true, true, true, true, true, true, true, true, true, true, true, true, true, true, true, true, true, true, true, true, false, false] (by decide +kernel) ?_
            exact hjoin W_9 v2 b0 b4 bX ⟨hb_9, own2, nv2, c1, c2, sX⟩
          exact AllReadyH.nil
        exact AllReadyH.nil
      exact AllReadyH.nil
    refine allReadyH_consL rfl (fun K hK => ?_) ?_
    · go_simp
      obtain ⟨W_10, hW⟩ : ∃ x, x = Wd.alloc (.cells #[.int .i64 x1, .int .i64 0, .int .i64 x2, .int .i64 0, .int .i64 0, .int .i64 x3, .int .i64 0, .int .i64 x4] 32) := ⟨_, rfl⟩
      have hX : Below Wd.heap.size Wd W_10 := by rw [hW]; exact (Below.refl _ _).alloc (Nat.le_refl _) _
      have hb_10 := ch4 hb_ hX
      have hsz : W_10.heap.size = Wd.heap.size + 1 := by rw [hW]; simp
      obtain ⟨b4, hb4⟩ : ∃ x, x = Wd.heap.size := ⟨_, rfl⟩
      have hc4 : W_10.heap[b4]? = some (.cells #[.int .i64 x1, .int .i64 0, .int .i64 x2, .int .i64 0, .int .i64 0, .int .i64 x3, .int .i64 0, .int .i64 x4] 32 (0, 0)) := by rw [hW, hb4]; exact World.alloc_heap_new _ _
      obtain ⟨hp1, hp2⟩ := HYL.out
      have c1n : W_10.cell? ⟨b4, rn * 2, none⟩ = some (.int .i64 y1) := (cells_cell hc4 _).trans hp1
      have c2n : W_10.cell? ⟨b4, rn * 2 + 1, none⟩ = some (.int .i64 y2) := (cells_cell hc4 _).trans hp2
      have l4n : b4 < W_10.heap.size := by omega
      rw [← hW, ← hb4]
      refine hK.out _ _ trivial (fun _ => ?_)
      clear hK K hW hX hb4 hc4 hp1 hp2
      try simp only [Act.put, List.setIfInBounds_toArray, List.set_cons_zero, List.set_cons_succ]
      have c1 := c1n
      have c2 := c2n
      have l4 := l4n
      clear c1n c2n l4n hsz
      refine wpAnyH_strong (S' := fun W => W.cell? ⟨b4, rn * 2, none⟩ = some (.int .i64 y1) ∧ W.cell? ⟨b4, rn * 2 + 1, none⟩ = some (.int .i64 y2)) (fun _ _ => trivial) _ _ _ _ ?_
      refine wpAnyH_takeL 18 (.pointer (some ⟨b4, rn * 2, none⟩)) rfl (by decide +kernel) (by decide +kernel) (by decide +kernel) (fun c a w h => hP c a _ _ w h) rfl ?_ ⟨c1, c2⟩ ?_
      · intro w hSw
        clear c1 c2 hSw
        go_simp
      simp only [Act.put, List.setIfInBounds_toArray, List.set_cons_zero, List.set_cons_succ]
      refine wpAnyH_takeL 19 (.agg #[.int .i64 y1, .int .i64 y2]) rfl (by decide +kernel) (by decide +kernel) (by decide +kernel) (fun c a w h => hP c a _ _ w h) rfl ?_ ⟨c1, c2⟩ ?_
      · intro w hSw
        obtain ⟨d1, d2⟩ := hSw
        go_simp
      simp only [Act.put, List.setIfInBounds_toArray, List.set_cons_zero, List.set_cons_succ]
      refine wpAnyH_ready (rs := [0, 20]) (by decide +kernel) (by simp) ?_
      refine allReadyH_consL rfl (fun K hK => ?_) ?_
      · go_simp
        obtain ⟨W_11, hW⟩ : ∃ x, x = W_10.alloc (.cells #[] 32) := ⟨_, rfl⟩
        have hX : Below W_10.heap.size W_10 W_11 := by rw [hW]; exact (Below.refl _ _).alloc (Nat.le_refl _) _
        have hb_11 := ch4 hb_10 hX
        have hsz : W_11.heap.size = W_10.heap.size + 1 := by rw [hW]; simp
        have c1' := (hX.cell (p := ⟨b4, rn * 2, none⟩) (World.block_lt_of_cell? _ _ c1)).trans c1
        have c2' := (hX.cell (p := ⟨b4, rn * 2 + 1, none⟩) (World.block_lt_of_cell? _ _ c2)).trans c2
        have l4' : b4 < W_11.heap.size := by omega
        obtain ⟨b0, hb0⟩ : ∃ x, x = W_10.heap.size := ⟨_, rfl⟩
        have own0n : OwnC W_11 wc.heap.size 32 (.slice (some ⟨b0, 0, none⟩) 0 0) [] := by rw [hW, hb0]; exact OwnC.made _ _ _ hb_10.size
        have l0n : b0 < W_11.heap.size := by omega
        have n4 : b4 ≠ b0 := by omega
        rw [← hW, ← hb0]
        refine hK.out _ _ ⟨c1', c2'⟩ (fun _ => ?_)
        clear hK K hW hX hb0
        try simp only [Act.put, List.setIfInBounds_toArray, List.set_cons_zero, List.set_cons_succ]
        clear c1 c2 l4
        have c1 := c1'
        have c2 := c2'
        have l4 := l4'
        clear c1' c2' l4'
        have own0 := own0n
        have l0 := l0n
        clear own0n l0n hsz
        refine wpAnyH_ready (rs := [2, 20]) (by decide +kernel) (by simp) ?_
        refine allReadyH_consL rfl (fun K hK => ?_) ?_
        · refine step_append_c rfl _ _ rfl rfl (by rfl) (by rfl) own0 hb_11.size (SV_5.out.below hb_11) (by have := hlen; simp; omega) ?_
          intro v2 W_12 own2n hg hat
          have hb_12 := own0.grown hb_11 hb_11.size hg
          have hgs := hg.size
          rw [List.nil_append] at own2n
          have c1' := cell_kept c1 hg (by simp only [Value.ownBlock]; simpa using n4)
          have c2' := cell_kept c2 hg (by simp only [Value.ownBlock]; simpa using n4)
          have l4' : b4 < W_12.heap.size := by omega
          have nv2 : some b4 ≠ v2.ownBlock := by
            intro h
            rcases hat with h' | h' <;> rw [h'] at h <;> simp only [Value.ownBlock, Option.some.injEq] at h <;> omega
          refine hK.out _ _ ⟨c1', c2'⟩ (fun _ => ?_)
          clear hK K hg hgs hat own0 l0
          try simp only [Act.put, List.setIfInBounds_toArray, List.set_cons_zero, List.set_cons_succ]
          clear c1 c2 l4
          have c1 := c1'
          have c2 := c2'
          have l4 := l4'
          clear c1' c2' l4'
          have own2 := own2n
          clear own2n
          refine wpAnyH_ready (rs := [20]) (by decide +kernel) (by simp) ?_
          refine allReadyH_consL rfl (fun K hK => ?_) ?_
          · go_simp
            obtain ⟨W_13, hW⟩ : ∃ x, x = W_12.alloc (.cells #[.int .i64 y1, .int .i64 y2] 32) := ⟨_, rfl⟩
            have hX : Below W_12.heap.size W_12 W_13 := by rw [hW]; exact (Below.refl _ _).alloc (Nat.le_refl _) _
            have hb_13 := ch4 hb_12 hX
            have hsz : W_13.heap.size = W_12.heap.size + 1 := by rw [hW]; simp
            have own2' : OwnC W_13 wc.heap.size 32 v2 cs := by rw [hW]; exact own2.alloc _
            have c1' := (hX.cell (p := ⟨b4, rn * 2, none⟩) (World.block_lt_of_cell? _ _ c1)).trans c1
            have c2' := (hX.cell (p := ⟨b4, rn * 2 + 1, none⟩) (World.block_lt_of_cell? _ _ c2)).trans c2
            have l4' : b4 < W_13.heap.size := by omega
            obtain ⟨bX, hbX⟩ : ∃ x, x = W_12.heap.size := ⟨_, rfl⟩
            have sXn : SrcC W_13 (.slice (some ⟨bX, 0, none⟩) 1 1) [(y1, y2)] := by rw [hW, hbX]; exact srcLit _ [(y1, y2)] (by simp)
            have lXn : bX < W_13.heap.size := by omega
            rw [← hW, ← hbX]
            refine hK.out _ _ ⟨c1', c2'⟩ (fun _ => ?_)
            clear hK K hW hX hbX
            try simp only [Act.put, List.setIfInBounds_toArray, List.set_cons_zero, List.set_cons_succ]
            clear own2
            have own2 := own2'
            clear own2'
            clear c1 c2 l4
            have c1 := c1'
            have c2 := c2'
            have l4 := l4'
            clear c1' c2' l4'
            have sX := sXn
            have lX := lXn
            clear sXn lXn hsz
            refine wpAnyH_relist #[true, true, true, true, true, true, true, true, true, true, true, true, true, true, true, true, true, true, true, true, true, false, false] (by decide +kernel) ?_
            exact hjoin W_13 v2 b0 b4 bX ⟨hb_13, own2, nv2, c1, c2, sX⟩
          exact AllReadyH.nil
        refine allReadyH_consL rfl (fun K hK => ?_) ?_
        · go_simp
          obtain ⟨W_14, hW⟩ : ∃ x, x = W_11.alloc (.cells #[.int .i64 y1, .int .i64 y2] 32) := ⟨_, rfl⟩
          have hX : Below W_11.heap.size W_11 W_14 := by rw [hW]; exact (Below.refl _ _).alloc (Nat.le_refl _) _
          have hb_14 := ch4 hb_11 hX
          have hsz : W_14.heap.size = W_11.heap.size + 1 := by rw [hW]; simp
          have own0' : OwnC W_14 wc.heap.size 32 (.slice (some ⟨b0, 0, none⟩) 0 0) [] := by rw [hW]; exact own0.alloc _
          have l0' : b0 < W_14.heap.size := by omega
          have c1' := (hX.cell (p := ⟨b4, rn * 2, none⟩) (World.block_lt_of_cell? _ _ c1)).trans c1
          have c2' := (hX.cell (p := ⟨b4, rn * 2 + 1, none⟩) (World.block_lt_of_cell? _ _ c2)).trans c2
          have l4' : b4 < W_14.heap.size := by omega
          obtain ⟨bX, hbX⟩ : ∃ x, x = W_11.heap.size := ⟨_, rfl⟩
          have sXn : SrcC W_14 (.slice (some ⟨bX, 0, none⟩) 1 1) [(y1, y2)] := by rw [hW, hbX]; exact srcLit _ [(y1, y2)] (by simp)
          have lXn : bX < W_14.heap.size := by omega
          have nX : bX ≠ b0 := by omega
          rw [← hW, ← hbX]
          refine hK.out _ _ ⟨c1', c2'⟩ (fun _ => ?_)
          clear hK K hW hX hbX
          try simp only [Act.put, List.setIfInBounds_toArray, List.set_cons_zero, List.set_cons_succ]
          clear own0 l0
          have own0 := own0'
          have l0 := l0'
          clear own0' l0'
          clear c1 c2 l4
          have c1 := c1'
          have c2 := c2'
          have l4 := l4'
          clear c1' c2' l4'
          have sX := sXn
          have lX := lXn
          clear sXn lXn hsz
          refine wpAnyH_ready (rs := [2]) (by decide +kernel) (by simp) ?_
          refine allReadyH_consL rfl (fun K hK => ?_) ?_
          · refine step_append_c rfl _ _ rfl rfl (by rfl) (by rfl) own0 hb_14.size (SV_5.out.below hb_14) (by have := hlen; simp; omega) ?_
            intro v2 W_15 own2n hg hat
            have hb_15 := own0.grown hb_14 hb_14.size hg
            have hgs := hg.size
            rw [List.nil_append] at own2n
            have c1' := cell_kept c1 hg (by simp only [Value.ownBlock]; simpa using n4)
            have c2' := cell_kept c2 hg (by simp only [Value.ownBlock]; simpa using n4)
            have l4' : b4 < W_15.heap.size := by omega
            have sX' := sX.kept hg (by simp only [Value.ownBlock]; simpa using nX)
            have lX' : bX < W_15.heap.size := by omega
            have nv2 : some b4 ≠ v2.ownBlock := by
              intro h
              rcases hat with h' | h' <;> rw [h'] at h <;> simp only [Value.ownBlock, Option.some.injEq] at h <;> omega
            refine hK.out _ _ ⟨c1', c2'⟩ (fun _ => ?_)
            clear hK K hg hgs hat own0 l0
            try simp only [Act.put, List.setIfInBounds_toArray, List.set_cons_zero, List.set_cons_succ]
            clear c1 c2 l4
            have c1 := c1'
            have c2 := c2'
            have l4 := l4'
            clear c1' c2' l4'
            clear sX lX
            have sX := sX'
            have lX := lX'
            clear sX' lX'
            have own2 := own2n
            clear own2n
            refine wpAnyH_relist #[true, true, true, true, true, true, true, true, true, true, true, true, true, true, true, true, true, true, true, true, true, false, false] (by decide +kernel) ?_
            exact hjoin W_15 v2 b0 b4 bX ⟨hb_15, own2, nv2, c1, c2, sX⟩
          exact AllReadyH.nil
        exact AllReadyH.nil
      refine allReadyH_consL rfl (fun K hK => ?_) ?_
      · go_simp
        obtain ⟨W_16, hW⟩ : ∃ x, x = W_10.alloc (.cells #[.int .i64 y1, .int .i64 y2] 32) := ⟨_, rfl⟩
        have hX : Below W_10.heap.size W_10 W_16 := by rw [hW]; exact (Below.refl _ _).alloc (Nat.le_refl _) _
        have hb_16 := ch4 hb_10 hX
        have hsz : W_16.heap.size = W_10.heap.size + 1 := by rw [hW]; simp
        have c1' := (hX.cell (p := ⟨b4, rn * 2, none⟩) (World.block_lt_of_cell? _ _ c1)).trans c1
        have c2' := (hX.cell (p := ⟨b4, rn * 2 + 1, none⟩) (World.block_lt_of_cell? _ _ c2)).trans c2
        have l4' : b4 < W_16.heap.size := by omega
        obtain ⟨bX, hbX⟩ : ∃ x, x = W_10.heap.size := ⟨_, rfl⟩
        have sXn : SrcC W_16 (.slice (some ⟨bX, 0, none⟩) 1 1) [(y1, y2)] := by rw [hW, hbX]; exact srcLit _ [(y1, y2)] (by simp)
        have lXn : bX < W_16.heap.size := by omega
        rw [← hW, ← hbX]
        refine hK.out _ _ ⟨c1', c2'⟩ (fun _ => ?_)
        clear hK K hW hX hbX
        try simp only [Act.put, List.setIfInBounds_toArray, List.set_cons_zero, List.set_cons_succ]
        clear c1 c2 l4
        have c1 := c1'
        have c2 := c2'
        have l4 := l4'
        clear c1' c2' l4'
        have sX := sXn
        have lX := lXn
        clear sXn lXn hsz
        refine wpAnyH_ready (rs := [0]) (by decide +kernel) (by simp) ?_
        refine allReadyH_consL rfl (fun K hK => ?_) ?_
        · go_simp
          obtain ⟨W_17, hW⟩ : ∃ x, x = W_16.alloc (.cells #[] 32) := ⟨_, rfl⟩
          have hX : Below W_16.heap.size W_16 W_17 := by rw [hW]; exact (Below.refl _ _).alloc (Nat.le_refl _) _
          have hb_17 := ch4 hb_16 hX
          have hsz : W_17.heap.size = W_16.heap.size + 1 := by rw [hW]; simp
          have c1' := (hX.cell (p := ⟨b4, rn * 2, none⟩) (World.block_lt_of_cell? _ _ c1)).trans c1
          have c2' := (hX.cell (p := ⟨b4, rn * 2 + 1, none⟩) (World.block_lt_of_cell? _ _ c2)).trans c2
          have l4' : b4 < W_17.heap.size := by omega
          have sX' := sX.below hX
          have lX' : bX < W_17.heap.size := by omega
          obtain ⟨b0, hb0⟩ : ∃ x, x = W_16.heap.size := ⟨_, rfl⟩
          have own0n : OwnC W_17 wc.heap.size 32 (.slice (some ⟨b0, 0, none⟩) 0 0) [] := by rw [hW, hb0]; exact OwnC.made _ _ _ hb_16.size
          have l0n : b0 < W_17.heap.size := by omega
          have n4 : b4 ≠ b0 := by omega
          have nX : bX ≠ b0 := by omega
          rw [← hW, ← hb0]
          refine hK.out _ _ ⟨c1', c2'⟩ (fun _ => ?_)
          clear hK K hW hX hb0
          try simp only [Act.put, List.setIfInBounds_toArray, List.set_cons_zero, List.set_cons_succ]
          clear c1 c2 l4
          have c1 := c1'
          have c2 := c2'
          have l4 := l4'
          clear c1' c2' l4'
          clear sX lX
          have sX := sX'
          have lX := lX'
          clear sX' lX'
          have own0 := own0n
          have l0 := l0n
          clear own0n l0n hsz
          refine wpAnyH_ready (rs := [2]) (by decide +kernel) (by simp) ?_
          refine allReadyH_consL rfl (fun K hK => ?_) ?_
          · refine step_append_c rfl _ _ rfl rfl (by rfl) (by rfl) own0 hb_17.size (SV_5.out.below hb_17) (by have := hlen; simp; omega) ?_
            intro v2 W_18 own2n hg hat
            have hb_18 := own0.grown hb_17 hb_17.size hg
            have hgs := hg.size
            rw [List.nil_append] at own2n
            have c1' := cell_kept c1 hg (by simp only [Value.ownBlock]; simpa using n4)
            have c2' := cell_kept c2 hg (by simp only [Value.ownBlock]; simpa using n4)
            have l4' : b4 < W_18.heap.size := by omega
            have sX' := sX.kept hg (by simp only [Value.ownBlock]; simpa using nX)
            have lX' : bX < W_18.heap.size := by omega
            have nv2 : some b4 ≠ v2.ownBlock := by
              intro h
              rcases hat with h' | h' <;> rw [h'] at h <;> simp only [Value.ownBlock, Option.some.injEq] at h <;> omega
            refine hK.out _ _ ⟨c1', c2'⟩ (fun _ => ?_)
            clear hK K hg hgs hat own0 l0
            try simp only [Act.put, List.setIfInBounds_toArray, List.set_cons_zero, List.set_cons_succ]
            clear c1 c2 l4
            have c1 := c1'
            have c2 := c2'
            have l4 := l4'
            clear c1' c2' l4'
            clear sX lX
            have sX := sX'
            have lX := lX'
            clear sX' lX'
            have own2 := own2n
            clear own2n
            refine wpAnyH_relist #[true, true, true, true, true, true, true, true, true, true, true, true, true, true, true, true, true, true, true, true, true, false, false] (by decide +kernel) ?_
            exact hjoin W_18 v2 b0 b4 bX ⟨hb_18, own2, nv2, c1, c2, sX⟩
          exact AllReadyH.nil
        exact AllReadyH.nil
      exact AllReadyH.nil
    exact AllReadyH.nil
  case pf =>
    rintro Wj v2 b0 b4 bX ⟨hbj, own2, nv2, c1, c2, sX⟩
    refine wpAnyH_ready (rs := [21]) (by decide +kernel) (by simp) ?_
    refine allReadyH_consL rfl (fun K hK => ?_) ?_
    · refine step_append_c rfl _ _ rfl rfl (by rfl) (by rfl) own2 hbj.size sX (by have := hlen; simp; omega) ?_
      intro v3 W_19 own3 hg _
      have hb_19 := own2.grown hbj hbj.size hg
      refine (hK.out _ _ ?_ (fun _ => ?_))
      · exact ⟨cell_kept c1 hg nv2, cell_kept c2 hg nv2⟩
      have c1' := cell_kept c1 hg nv2
      have c2' := cell_kept c2 hg nv2
      clear hK K hg c1 c2
      have c1 := c1'
      have c2 := c2'
      try simp only [Act.put, List.setIfInBounds_toArray, List.set_cons_zero, List.set_cons_succ]
      obtain ⟨a3, c3, hv3⟩ := own3.src.shape
      have hv4 : v3 = .slice a3 (cs.length + 1) c3 := by rw [hv3]; simp
      clear hv3
      subst hv4
      have sx3 := own3.src
      refine wpAnyH_takeL 22 (.slice a3 (cs.length + 1) c3) rfl (by decide +kernel) (by decide +kernel) (by decide +kernel) (fun c a w h => hP c a _ _ w h) rfl ?_ ⟨c1, c2⟩ ?_
      · intro w hSw
        go_simp
      simp only [Act.put, List.setIfInBounds_toArray, List.set_cons_zero, List.set_cons_succ]
      refine wpAnyH_done (by decide +kernel) ?_ _
      exact HQ.out _ _ _ _ _ _ _ sx3 hb_19
    exact AllReadyH.nil
end Go.Proofs.Ytppfhcocmpmadaa
