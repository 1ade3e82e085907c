/- The law QuotaSmall: block 8, which makes 4097 charges, as a theorem of its own. -/
import Derived.Test.YtppfhcocmpmadaaS1
import Derived.Laws.OwnMore
namespace Go.Proofs.Ytppfhcocmpmadaa
open Go.RowKit
set_option linter.unusedVariables false

noncomputable def pieceS3 : Code := ((Try.f10.body.bind (blockOf 8)).getD .skip)
/-- The amount of charge j. -/
def bigA (j : Nat) : Int := if 4 ≤ j % 8 then -1099511627776 else 1099511627776
def BigAt (xs : List Value) (j : Nat) : Prop := xs[j * 2]? = some (.int .i64 ((j % 4 : Nat) : Int)) ∧ xs[j * 2 + 1]? = some (.int .i64 (bigA j))
theorem BigAt.set {xs : List Value} {j k : Nat} (h : BigAt xs j) (hne : j ≠ k) (a b : Value) : BigAt ((xs.set (k * 2) a).set (k * 2 + 1) b) j := by
  refine ⟨?_, ?_⟩
  · rw [List.getElem?_set_ne (by omega), List.getElem?_set_ne (by omega)]; exact h.1
  · rw [List.getElem?_set_ne (by omega), List.getElem?_set_ne (by omega)]; exact h.2
theorem BigAt.new {xs : List Value} {k : Nat} (hl : k * 2 + 1 < xs.length) {a b : Value} (ha : a = .int .i64 ((k % 4 : Nat) : Int)) (hb : b = .int .i64 (bigA k)) : BigAt ((xs.set (k * 2) a).set (k * 2 + 1) b) k := by
  subst ha hb
  refine ⟨?_, ?_⟩
  · rw [List.getElem?_set_ne (by omega), List.getElem?_set_self (by omega)]
  · rw [List.getElem?_set_self (by simp; omega)]

set_option maxRecDepth 1000000 in
set_option maxHeartbeats 8000000 in
theorem rS3 (g base : Nat) (wr : World) (xs0 : List Value) (HO0 : Hd (wr.ownsRow base 32 2 (.slice (some ⟨g, 0, none⟩) 4097 4097) 4097 xs0)) (Q : Exit → Act → World → Prop)
    {c0 c1 c2 c3 c4 c5 c6 c7 c8 c9 c10 c11 c12 c14 c15 c16 c17 c18 c19 c20 c21 c22 c23 c24 c25 c26 c27 c28 c29 c30 c31 c32 c33 c34 c35 c36 c37 c38 c39 c40 c41 c42 c43 c44 c45 c46 c47 c48 c49 c50 c51 c52 c53 c54 c55 c56 c57 c58 c59 c60 c61 c62 c63 c64 c65 c66 c67 c68 c69 c70 c71 c72 c73 c74 c75 c76 c77 c78 c79 c80 c81 c82 c83 c84 c85 c86 c87 c88 c89 c90 c91 c92 c93 c94 c95 c96 c97 c98 c99 c100 c101 c102 c103 c104 c105 c106 c107 c108 c109 c110 c111 c112 c113 c114 c115 c116 c117 c118 c119 c120 c121 c122 c123 c124 c125 c126 c127 c128 c129 c130 c131 c132 c133 c134 c135 c136 c137 c138 c139 c140 c141 c142 c143 c144 c145 c146 c147 c148 c149 c150 c151 c152 c153 c154 c155 c156 c157 c158 c159 c160 c161 c162 c163 c164 c165 c166 c167 c168 c169 c170 c171 c172 c173 c174 c175 c176 c177 c178 c179 c180 c181 c184 c185 c186 c187 c188 c189 c190 c191 c192 c193 c194 c195 c196 c197 c198 c199 c200 c201 c202 c203 c204 c205 c206 c207 c208 c209 c210 c211 c212 c213 c214 c215 c216 c217 c218 c219 c220 c221 c222 c223 c224 c225 c226 c227 c228 c229 c230 c231 c232 c233 c234 c235 c236 c237 c238 c239 c240 c241 c242 c243 c244 c245 c246 c247 c248 c249 c250 c251 c252 c253 c254 c255 c256 c257 c258 c259 c260 c261 c262 c263 c264 c265 c266 c267 c268 c269 c270 c271 c272 c273 c274 c275 c276 c277 c278 c279 c280 c281 c282 c283 c284 c285 c286 c287 c288 c289 c290 c291 c292 c293 c294 c295 c296 c297 c298 c299 c300 c301 c302 c303 c304 c305 c306 c307 c308 c309 c310 c311 c312 : Value}
    (hQ : ∀ {u14 u183 u184 u185 u186 u187 u188 u189 u190 u191 u192 u193 u194 u195 u196 u197 u198 u199 : Value} (wx : World) (xs : List Value), wx.ownsRow base 32 2 (.slice (some ⟨g, 0, none⟩) 4097 4097) 4097 xs → (∀ j, j < 4097 → BigAt xs j) → Below base wr wx → Q .normal ⟨#[c0, c1, c2, c3, c4, c5, c6, c7, c8, c9, c10, c11, c12, .slice (some ⟨g, 0, none⟩) 4097 4097, u14, c15, c16, c17, c18, c19, c20, c21, c22, c23, c24, c25, c26, c27, c28, c29, c30, c31, c32, c33, c34, c35, c36, c37, c38, c39, c40, c41, c42, c43, c44, c45, c46, c47, c48, c49, c50, c51, c52, c53, c54, c55, c56, c57, c58, c59, c60, c61, c62, c63, c64, c65, c66, c67, c68, c69, c70, c71, c72, c73, c74, c75, c76, c77, c78, c79, c80, c81, c82, c83, c84, c85, c86, c87, c88, c89, c90, c91, c92, c93, c94, c95, c96, c97, c98, c99, c100, c101, c102, c103, c104, c105, c106, c107, c108, c109, c110, c111, c112, c113, c114, c115, c116, c117, c118, c119, c120, c121, c122, c123, c124, c125, c126, c127, c128, c129, c130, c131, c132, c133, c134, c135, c136, c137, c138, c139, c140, c141, c142, c143, c144, c145, c146, c147, c148, c149, c150, c151, c152, c153, c154, c155, c156, c157, c158, c159, c160, c161, c162, c163, c164, c165, c166, c167, c168, c169, c170, c171, c172, c173, c174, c175, c176, c177, c178, c179, c180, c181, .int .i64 4097, u183, u184, u185, u186, u187, u188, u189, u190, u191, u192, u193, u194, u195, u196, u197, u198, u199, c200, c201, c202, c203, c204, c205, c206, c207, c208, c209, c210, c211, c212, c213, c214, c215, c216, c217, c218, c219, c220, c221, c222, c223, c224, c225, c226, c227, c228, c229, c230, c231, c232, c233, c234, c235, c236, c237, c238, c239, c240, c241, c242, c243, c244, c245, c246, c247, c248, c249, c250, c251, c252, c253, c254, c255, c256, c257, c258, c259, c260, c261, c262, c263, c264, c265, c266, c267, c268, c269, c270, c271, c272, c273, c274, c275, c276, c277, c278, c279, c280, c281, c282, c283, c284, c285, c286, c287, c288, c289, c290, c291, c292, c293, c294, c295, c296, c297, c298, c299, c300, c301, c302, c303, c304, c305, c306, c307, c308, c309, c310, c311, c312], []⟩ wx) :
    Code.wp Try.prog pieceS3 Q ⟨#[c0, c1, c2, c3, c4, c5, c6, c7, c8, c9, c10, c11, c12, .slice (some ⟨g, 0, none⟩) 4097 4097, c14, c15, c16, c17, c18, c19, c20, c21, c22, c23, c24, c25, c26, c27, c28, c29, c30, c31, c32, c33, c34, c35, c36, c37, c38, c39, c40, c41, c42, c43, c44, c45, c46, c47, c48, c49, c50, c51, c52, c53, c54, c55, c56, c57, c58, c59, c60, c61, c62, c63, c64, c65, c66, c67, c68, c69, c70, c71, c72, c73, c74, c75, c76, c77, c78, c79, c80, c81, c82, c83, c84, c85, c86, c87, c88, c89, c90, c91, c92, c93, c94, c95, c96, c97, c98, c99, c100, c101, c102, c103, c104, c105, c106, c107, c108, c109, c110, c111, c112, c113, c114, c115, c116, c117, c118, c119, c120, c121, c122, c123, c124, c125, c126, c127, c128, c129, c130, c131, c132, c133, c134, c135, c136, c137, c138, c139, c140, c141, c142, c143, c144, c145, c146, c147, c148, c149, c150, c151, c152, c153, c154, c155, c156, c157, c158, c159, c160, c161, c162, c163, c164, c165, c166, c167, c168, c169, c170, c171, c172, c173, c174, c175, c176, c177, c178, c179, c180, c181, .int .i64 4097, .int .i64 0, c184, c185, c186, c187, c188, c189, c190, c191, c192, c193, c194, c195, c196, c197, c198, c199, c200, c201, c202, c203, c204, c205, c206, c207, c208, c209, c210, c211, c212, c213, c214, c215, c216, c217, c218, c219, c220, c221, c222, c223, c224, c225, c226, c227, c228, c229, c230, c231, c232, c233, c234, c235, c236, c237, c238, c239, c240, c241, c242, c243, c244, c245, c246, c247, c248, c249, c250, c251, c252, c253, c254, c255, c256, c257, c258, c259, c260, c261, c262, c263, c264, c265, c266, c267, c268, c269, c270, c271, c272, c273, c274, c275, c276, c277, c278, c279, c280, c281, c282, c283, c284, c285, c286, c287, c288, c289, c290, c291, c292, c293, c294, c295, c296, c297, c298, c299, c300, c301, c302, c303, c304, c305, c306, c307, c308, c309, c310, c311, c312], []⟩ wr := by
  have HQ := Hd.mk @hQ
  clear hQ
  conv => arg 2; whnf
  go_wp2_with fail
  go_loopw [183] (fun i W => ∃ k : Nat, k ≤ 4097 ∧ i = .int .i64 k ∧ (∃ xs, Hd (W.ownsRow base 32 2 (.slice (some ⟨g, 0, none⟩) 4097 4097) 4097 xs) ∧ Hd (∀ j, j < k → BigAt xs j)) ∧ Below base wr W) (fun i _ => 4097 - (intOf i).toNat)
  case atStart => exact ⟨0, Nat.zero_le _, rfl, ⟨_, HO0, ⟨fun j hj => by omega⟩⟩, Below.refl _ _⟩
  case round =>
    obtain ⟨k, hk, rfl, ⟨xs, HO, HX⟩, hB⟩ := hrel
    have HB := Hd.mk hB
    clear hB
    by_cases hlt : k < 4097
    · have ho := HO.out
      have hxl : xs.length = 4097 * 2 := ho.1
      have hc1 := ho.cellAt (k * 2) (by omega)
      have hc2 := ho.cellAt (k * 2 + 1) (by omega)
      rw [List.getElem?_eq_getElem (by omega)] at hc1 hc2
      have hf1 := ho.frozenAt (k * 2)
      have hf2 := ho.frozenAt (k * 2 + 1)
      obtain ⟨z1, hz1⟩ : ∃ z, xs[k * 2]'(by omega) = z := ⟨_, rfl⟩
      obtain ⟨z2, hz2⟩ : ∃ z, xs[k * 2 + 1]'(by omega) = z := ⟨_, rfl⟩
      rw [hz1] at hc1
      rw [hz2] at hc2
      have hgb := (World.ownsRow.lt ho g rfl).1
      have HGB := Hd.mk hgb
      have HXL := Hd.mk hxl
      obtain ⟨m4, hm4⟩ : ∃ m, k % 4 = m := ⟨_, rfl⟩
      obtain ⟨m8, hm8⟩ : ∃ m, k % 8 = m := ⟨_, rfl⟩
      have HM4 := Hd.mk hm4
      have HM8 := Hd.mk hm8
      have r4 : Int.tmod (k : Int) 4 = (m4 : Int) := by rw [Int.tmod_eq_emod_of_nonneg (by omega)]; omega
      have e4 : (k : Int) % 4 = (m4 : Int) := by omega
      have r8 : Int.tmod (k : Int) 8 = (m8 : Int) := by rw [Int.tmod_eq_emod_of_nonneg (by omega)]; omega
      have e8 : (k : Int) % 8 = (m8 : Int) := by omega
      have k0 : (0 : Int) ≤ (k : Int) := by omega
      have k1 : (k : Int) < 4097 := by omega
      have HLT := Hd.mk hlt
      clear hz1 hz2 ho hxl hgb hm4 hm8
      by_cases h8 : 4 ≤ m8
      · have h8' : (4 : Int) ≤ (m8 : Int) := by omega
        have HBA : Hd (bigA k = -1099511627776) := ⟨by rw [bigA, HM8.out, if_pos h8]⟩
        have HON := Hd.mk ((HO.out.stored (k * 2) (.int .i64 (m4 : Int))).1.stored (k * 2 + 1) (.int .i64 1099511627776)).1
        have HON2 := Hd.mk (HON.out.stored (k * 2 + 1) (.int .i64 (-1099511627776))).1
        have HBN := Hd.mk (((HB.out.setCell (p := ⟨g, k * 2, none⟩) HGB.out (.int .i64 (m4 : Int))).setCell (p := ⟨g, k * 2 + 1, none⟩) HGB.out (.int .i64 1099511627776)).setCell (p := ⟨g, k * 2 + 1, none⟩) HGB.out (.int .i64 (-1099511627776)))
        have HXN : Hd (∀ j, j < k + 1 → BigAt (((xs.set (k * 2) (.int .i64 (m4 : Int))).set (k * 2 + 1) (.int .i64 1099511627776)).set (k * 2 + 1) (.int .i64 (-1099511627776))) j) := ⟨fun j hj => by
          rw [List.set_set]
          by_cases e : j = k
          · subst e; exact BigAt.new (by have := HXL.out; have := HLT.out; omega) (by rw [HM4.out]) (by rw [HBA.out])
          · exact (HX.out j (by omega)).set e _ _⟩
        clear HO HX
        go_wp2_with fail
        go_roundw
        case rel => exact ⟨k + 1, HLT.out, by go_num, ⟨_, HON2, HXN⟩, HBN.out⟩
        case measure => simp [intOf] <;> omega
      · have h8' : ¬ ((4 : Int) ≤ (m8 : Int)) := by omega
        have d8 : decide ((4 : Int) ≤ (m8 : Int)) = false := decide_eq_false h8'
        have HBA : Hd (bigA k = 1099511627776) := ⟨by rw [bigA, HM8.out, if_neg h8]⟩
        have HON := Hd.mk ((HO.out.stored (k * 2) (.int .i64 (m4 : Int))).1.stored (k * 2 + 1) (.int .i64 1099511627776)).1
        have HBN := Hd.mk ((HB.out.setCell (p := ⟨g, k * 2, none⟩) HGB.out (.int .i64 (m4 : Int))).setCell (p := ⟨g, k * 2 + 1, none⟩) HGB.out (.int .i64 1099511627776))
        have HXN : Hd (∀ j, j < k + 1 → BigAt ((xs.set (k * 2) (.int .i64 (m4 : Int))).set (k * 2 + 1) (.int .i64 1099511627776)) j) := ⟨fun j hj => by
          by_cases e : j = k
          · subst e; exact BigAt.new (by have := HXL.out; have := HLT.out; omega) (by rw [HM4.out]) (by rw [HBA.out])
          · exact (HX.out j (by omega)).set e _ _⟩
        clear HO HX
        go_wp2_with fail
        go_roundw
        case rel => exact ⟨k + 1, HLT.out, by go_num, ⟨_, HON, HXN⟩, HBN.out⟩
        case measure => simp [intOf] <;> omega
    · obtain rfl : k = 4097 := by omega
      clear hlt hk
      go_wp2_with fail
      exact HQ.out _ _ HO.out HX.out HB.out
end Go.Proofs.Ytppfhcocmpmadaa
