/- The law CellsSmall: the list of plans (a region that draws its order: twelve literals in whatever order). -/
import Derived.Test.YtnhkadknibinfaaS1
namespace Go.Proofs.Ytnhkadknibinfaa
open Go.RowKit
set_option linter.unusedVariables false
set_option linter.unusedSimpArgs false

def regOf (n : Nat) : Code → Option Code
  | .region id ops b => if id = n then some (.region id ops b) else none
  | .seq a b => match regOf n a with
    | some c => some c
    | none => regOf n b
  | .block _ c => regOf n c
  | .loop c => regOf n c
  | .scope c => regOf n c
  | .cond _ a b => match regOf n a with
    | some c => some c
    | none => regOf n b
  | _ => none
def opsOf : Code → Array Oper
  | .region _ ops _ => ops
  | _ => #[]
noncomputable def piece20 : Code := ((Try.f8.body.bind (regOf 20)).getD .skip)
noncomputable def ops20 : Array Oper := opsOf piece20
theorem wpOp_shut {P : Program} {ops : Array Oper} {Q : Exit → Act → World → Prop} {i : Nat} {K : Act → World → Prop} {a : Act} {w : World} {o : Oper} (ho : ops.toList[i]? = some o) (hw : Region.wanted o (yielded ops a.tmps) = true)
    (h : ∀ K' : Act → World → Prop, Shut (∀ a w, K a w → K' a w) → Oper.wp P o a w K' Q) : wpOp P ops Q i K a w := by
  unfold wpOp
  rw [← Array.getElem?_toList, ho]
  simp only [hw, if_true]
  exact .inl (h K (fun _ _ h => h))
/-- A literal that was made, if it came up. -/
def Lit1 (base w : World) (l : Bool) (v : Value) (n : Nat) (C : Array Value) : Prop := l = true → ∃ b, v = .slice (some ⟨b, 0, none⟩) n n ∧ base.heap.size ≤ b ∧ w.heap[b]? = some (.cells C 3 (0, 0))
theorem Lit1.alloc {base w : World} {l : Bool} {v : Value} {n : Nat} {C : Array Value} (h : Lit1 base w l v n C) (o : Obj) : Lit1 base (w.alloc o) l v n C := fun hl => by
  obtain ⟨b, h1, h2, h3⟩ := h hl
  exact ⟨b, h1, h2, (Below.heap_alloc w o b (lt_of_heap h3)).trans h3⟩
theorem Lit1.new {base w : World} {l : Bool} {n : Nat} {C : Array Value} (hB : base.heap.size ≤ w.heap.size) : Lit1 base (w.alloc (.cells C 3)) l (.slice (some ⟨w.heap.size, 0, none⟩) n n) n C := fun _ =>
  ⟨_, rfl, hB, heap_alloc_new _ _⟩
theorem aft20 : (List.range 12).all (fun j => ((ops20[j]?).map (fun o => o.after.isEmpty)).getD false) = true := by kernel_rfl
theorem aft12 : (List.range 12).all (fun k => ((ops20[12]?).map (fun o => o.after.any (fun e => e.on == k && Region.binds .any e))).getD false) = true := by kernel_rfl
theorem aft13 : ((ops20[13]?).map (fun o => o.after.any (fun e => e.on == 12 && Region.binds .any e))).getD false = true := by kernel_rfl
theorem free20 {j : Nat} (hj : j < 12) : ∃ o, ops20[j]? = some o ∧ ∀ e ∈ o.after, False := by
  have h := List.all_eq_true.1 aft20 j (List.mem_range.2 hj)
  cases ho : ops20[j]? with
  | none => rw [ho] at h; cases h
  | some o =>
    rw [ho] at h
    have h2 : o.after = #[] := by simpa using h
    exact ⟨o, rfl, fun e he => by rw [h2] at he; simp at he⟩
theorem any_on {ops : Array Oper} {j k : Nat} {o : Oper} (ho : ops[j]? = some o) (h : ((ops[j]?).map (fun o => o.after.any (fun e => e.on == k && Region.binds .any e))).getD false = true) : ∃ e, e ∈ o.after ∧ e.on = k ∧ Region.binds .any e = true := by
  rw [ho] at h
  simp only [Option.map_some, Option.getD_some] at h
  obtain ⟨e, he, h2⟩ := Array.any_eq_true'.1 h
  simp only [Bool.and_eq_true, beq_iff_eq] at h2
  exact ⟨e, he, h2.1, h2.2⟩
def nf (b : Bool) : Nat := if b then 0 else 1

set_option maxRecDepth 1000000 in
set_option maxHeartbeats 8000000 in
theorem r20_any (base : World) (Q : Exit → Act → World → Prop)
    {c0 c1 c2 c3 c4 c5 c6 c7 c8 c9 c10 c11 c12 c13 c14 c15 c16 c17 c18 c19 c20 c21 c22 c23 c24 c25 c26 c27 c28 c29 c30 c31 c32 c33 c34 c35 c36 c37 c38 c39 c40 c41 c42 c43 c44 c45 c46 c47 c48 c49 c50 c51 c52 c53 c54 c55 c56 c57 c58 c59 c60 c61 c62 c63 c64 c65 c66 c67 c68 c69 c70 c71 c72 c73 c74 c75 c76 c77 c78 c79 c80 c81 c82 c83 c84 c85 c86 c87 c88 c89 c90 c91 c92 c93 c94 c95 c96 c97 c98 c99 c100 c101 c102 c103 c104 c105 c106 c107 c108 c109 c110 c111 c112 c113 c114 c115 c116 c117 c118 c119 c135 c136 c137 c138 c139 c140 c141 c142 c143 c144 c145 c146 c147 c148 c149 c150 c151 c152 c153 c154 c155 c156 c157 c158 c159 c160 c161 c162 c163 c164 c165 c166 c167 c168 c169 c170 c171 c172 c173 c174 c175 c176 c177 c178 c179 c180 c181 c182 c183 c184 c185 c186 c187 c188 c189 c190 c191 c192 c193 c194 c195 c196 c197 c198 c199 c200 c201 c202 c203 c204 c205 c206 c207 c208 c209 c210 c211 c212 c213 c214 c215 c216 c217 c218 c219 c220 c221 c222 c223 c224 c225 c226 c227 c228 c229 c230 c231 c232 c233 c234 c235 c236 c237 c238 c239 c240 c241 c242 c243 c244 c245 c246 c247 c248 c249 c250 c251 c252 c253 c254 c255 c256 c257 c258 c259 c260 c261 c262 : Value}
    (hend : ∀ (b0 b1 b2 b3 b4 b5 b6 b7 b8 b9 b10 b11 : Nat) (w : World), Below base.heap.size base w → w.heap[b0]? = some (.cells #[.int .i64 1024] 3 (0, 0)) → w.heap[b1]? = some (.cells #[.int .i64 1023, .int .i64 1] 3 (0, 0)) → w.heap[b2]? = some (.cells #[.int .i64 1024, .int .i64 1] 3 (0, 0)) → w.heap[b3]? = some (.cells #[.int .i64 1025] 3 (0, 0)) → w.heap[b4]? = some (.cells #[.int .i64 (-1)] 3 (0, 0)) → w.heap[b5]? = some (.cells #[.int .i64 5, .int .i64 (-1)] 3 (0, 0)) → w.heap[b6]? = some (.cells #[.int .i64 4611686018427387904, .int .i64 4611686018427387904] 3 (0, 0)) → w.heap[b7]? = some (.cells #[.int .i64 (-9223372036854775808)] 3 (0, 0)) → w.heap[b8]? = some (.cells (Zc 16) 3 (0, 0)) → w.heap[b9]? = some (.cells (Zc 17) 3 (0, 0)) → w.heap[b10]? = some (.cells #[.int .i64 1024, .int .i64 0, .int .i64 0] 3 (0, 0)) → w.heap[b11]? = some (.cells #[.int .i64 512, .int .i64 513] 3 (0, 0)) → wpAnyH Try.prog .any ops20 Q (fun _ => True) 2 #[true, true, true, true, true, true, true, true, true, true, true, true, false, false, true] ⟨#[c0, c1, c2, c3, c4, c5, c6, c7, c8, c9, c10, c11, c12, c13, c14, c15, c16, c17, c18, c19, c20, c21, c22, c23, c24, c25, c26, c27, c28, c29, c30, c31, c32, c33, c34, c35, c36, c37, c38, c39, c40, c41, c42, c43, c44, c45, c46, c47, c48, c49, c50, c51, c52, c53, c54, c55, c56, c57, c58, c59, c60, c61, c62, c63, c64, c65, c66, c67, c68, c69, c70, c71, c72, c73, c74, c75, c76, c77, c78, c79, c80, c81, c82, c83, c84, c85, c86, c87, c88, c89, c90, c91, c92, c93, c94, c95, c96, c97, c98, c99, c100, c101, c102, c103, c104, c105, c106, c107, c108, c109, c110, c111, c112, c113, c114, c115, c116, c117, c118, c119, .slice (some ⟨b0, 0, none⟩) 1 1, .slice (some ⟨b1, 0, none⟩) 2 2, .slice (some ⟨b2, 0, none⟩) 2 2, .slice (some ⟨b3, 0, none⟩) 1 1, .slice (some ⟨b4, 0, none⟩) 1 1, .slice (some ⟨b5, 0, none⟩) 2 2, .slice (some ⟨b6, 0, none⟩) 2 2, .slice (some ⟨b7, 0, none⟩) 1 1, .slice (some ⟨b8, 0, none⟩) 16 16, .slice (some ⟨b9, 0, none⟩) 17 17, .slice (some ⟨b10, 0, none⟩) 3 3, .slice (some ⟨b11, 0, none⟩) 2 2, undef, undef, .int .i64 0, c135, c136, c137, c138, c139, c140, c141, c142, c143, c144, c145, c146, c147, c148, c149, c150, c151, c152, c153, c154, c155, c156, c157, c158, c159, c160, c161, c162, c163, c164, c165, c166, c167, c168, c169, c170, c171, c172, c173, c174, c175, c176, c177, c178, c179, c180, c181, c182, c183, c184, c185, c186, c187, c188, c189, c190, c191, c192, c193, c194, c195, c196, c197, c198, c199, c200, c201, c202, c203, c204, c205, c206, c207, c208, c209, c210, c211, c212, c213, c214, c215, c216, c217, c218, c219, c220, c221, c222, c223, c224, c225, c226, c227, c228, c229, c230, c231, c232, c233, c234, c235, c236, c237, c238, c239, c240, c241, c242, c243, c244, c245, c246, c247, c248, c249, c250, c251, c252, c253, c254, c255, c256, c257, c258, c259, c260, c261, c262], []⟩ w) :
    ∀ (m : Nat) (l0 l1 l2 l3 l4 l5 l6 l7 l8 l9 l10 l11 : Bool) (v0 v1 v2 v3 v4 v5 v6 v7 v8 v9 v10 v11 : Value) (w : World), nf l0 + nf l1 + nf l2 + nf l3 + nf l4 + nf l5 + nf l6 + nf l7 + nf l8 + nf l9 + nf l10 + nf l11 = m → Below base.heap.size base w → Lit1 base w l0 v0 1 #[.int .i64 1024] → Lit1 base w l1 v1 2 #[.int .i64 1023, .int .i64 1] → Lit1 base w l2 v2 2 #[.int .i64 1024, .int .i64 1] → Lit1 base w l3 v3 1 #[.int .i64 1025] → Lit1 base w l4 v4 1 #[.int .i64 (-1)] → Lit1 base w l5 v5 2 #[.int .i64 5, .int .i64 (-1)] → Lit1 base w l6 v6 2 #[.int .i64 4611686018427387904, .int .i64 4611686018427387904] → Lit1 base w l7 v7 1 #[.int .i64 (-9223372036854775808)] → Lit1 base w l8 v8 16 (Zc 16) → Lit1 base w l9 v9 17 (Zc 17) → Lit1 base w l10 v10 3 #[.int .i64 1024, .int .i64 0, .int .i64 0] → Lit1 base w l11 v11 2 #[.int .i64 512, .int .i64 513] →
      wpAnyH Try.prog .any ops20 Q (fun _ => True) (m + 2) #[l0, l1, l2, l3, l4, l5, l6, l7, l8, l9, l10, l11, false, false, true] ⟨#[c0, c1, c2, c3, c4, c5, c6, c7, c8, c9, c10, c11, c12, c13, c14, c15, c16, c17, c18, c19, c20, c21, c22, c23, c24, c25, c26, c27, c28, c29, c30, c31, c32, c33, c34, c35, c36, c37, c38, c39, c40, c41, c42, c43, c44, c45, c46, c47, c48, c49, c50, c51, c52, c53, c54, c55, c56, c57, c58, c59, c60, c61, c62, c63, c64, c65, c66, c67, c68, c69, c70, c71, c72, c73, c74, c75, c76, c77, c78, c79, c80, c81, c82, c83, c84, c85, c86, c87, c88, c89, c90, c91, c92, c93, c94, c95, c96, c97, c98, c99, c100, c101, c102, c103, c104, c105, c106, c107, c108, c109, c110, c111, c112, c113, c114, c115, c116, c117, c118, c119, v0, v1, v2, v3, v4, v5, v6, v7, v8, v9, v10, v11, undef, undef, .int .i64 0, c135, c136, c137, c138, c139, c140, c141, c142, c143, c144, c145, c146, c147, c148, c149, c150, c151, c152, c153, c154, c155, c156, c157, c158, c159, c160, c161, c162, c163, c164, c165, c166, c167, c168, c169, c170, c171, c172, c173, c174, c175, c176, c177, c178, c179, c180, c181, c182, c183, c184, c185, c186, c187, c188, c189, c190, c191, c192, c193, c194, c195, c196, c197, c198, c199, c200, c201, c202, c203, c204, c205, c206, c207, c208, c209, c210, c211, c212, c213, c214, c215, c216, c217, c218, c219, c220, c221, c222, c223, c224, c225, c226, c227, c228, c229, c230, c231, c232, c233, c234, c235, c236, c237, c238, c239, c240, c241, c242, c243, c244, c245, c246, c247, c248, c249, c250, c251, c252, c253, c254, c255, c256, c257, c258, c259, c260, c261, c262], []⟩ w := by
  intro m
  induction m with
  | zero =>
    intro l0 l1 l2 l3 l4 l5 l6 l7 l8 l9 l10 l11 v0 v1 v2 v3 v4 v5 v6 v7 v8 v9 v10 v11 w hm hB h0 h1 h2 h3 h4 h5 h6 h7 h8 h9 h10 h11
    obtain rfl : l0 = true := by cases l0 <;> simp [nf] at hm ⊢
    obtain rfl : l1 = true := by cases l1 <;> simp [nf] at hm ⊢
    obtain rfl : l2 = true := by cases l2 <;> simp [nf] at hm ⊢
    obtain rfl : l3 = true := by cases l3 <;> simp [nf] at hm ⊢
    obtain rfl : l4 = true := by cases l4 <;> simp [nf] at hm ⊢
    obtain rfl : l5 = true := by cases l5 <;> simp [nf] at hm ⊢
    obtain rfl : l6 = true := by cases l6 <;> simp [nf] at hm ⊢
    obtain rfl : l7 = true := by cases l7 <;> simp [nf] at hm ⊢
    obtain rfl : l8 = true := by cases l8 <;> simp [nf] at hm ⊢
    obtain rfl : l9 = true := by cases l9 <;> simp [nf] at hm ⊢
    obtain rfl : l10 = true := by cases l10 <;> simp [nf] at hm ⊢
    obtain rfl : l11 = true := by cases l11 <;> simp [nf] at hm ⊢
    obtain ⟨b0, rfl, -, k0⟩ := h0 rfl
    obtain ⟨b1, rfl, -, k1⟩ := h1 rfl
    obtain ⟨b2, rfl, -, k2⟩ := h2 rfl
    obtain ⟨b3, rfl, -, k3⟩ := h3 rfl
    obtain ⟨b4, rfl, -, k4⟩ := h4 rfl
    obtain ⟨b5, rfl, -, k5⟩ := h5 rfl
    obtain ⟨b6, rfl, -, k6⟩ := h6 rfl
    obtain ⟨b7, rfl, -, k7⟩ := h7 rfl
    obtain ⟨b8, rfl, -, k8⟩ := h8 rfl
    obtain ⟨b9, rfl, -, k9⟩ := h9 rfl
    obtain ⟨b10, rfl, -, k10⟩ := h10 rfl
    obtain ⟨b11, rfl, -, k11⟩ := h11 rfl
    exact hend b0 b1 b2 b3 b4 b5 b6 b7 b8 b9 b10 b11 w hB k0 k1 k2 k3 k4 k5 k6 k7 k8 k9 k10 k11
  | succ m ih =>
    intro l0 l1 l2 l3 l4 l5 l6 l7 l8 l9 l10 l11 v0 v1 v2 v3 v4 v5 v6 v7 v8 v9 v10 v11 w hm hB h0 h1 h2 h3 h4 h5 h6 h7 h8 h9 h10 h11
    refine ⟨fun h0 => ?_, fun i hi => ?_⟩
    · exfalso
      have hno : ∀ j, j ∈ Region.ready .any ops20 #[l0, l1, l2, l3, l4, l5, l6, l7, l8, l9, l10, l11, false, false, true] → False := fun j hj => by rw [h0] at hj; cases hj
      have q0 : l0 = true := by
        cases hl : l0 with
        | true => rfl
        | false => exact (by obtain ⟨o, h1, h2⟩ := free20 (j := 0) (by omega); exact (hno 0 (mem_ready.2 ⟨by simp [hl], o, h1, fun e he => (h2 e he).elim⟩)).elim)
      have q1 : l1 = true := by
        cases hl : l1 with
        | true => rfl
        | false => exact (by obtain ⟨o, h1, h2⟩ := free20 (j := 1) (by omega); exact (hno 1 (mem_ready.2 ⟨by simp [hl], o, h1, fun e he => (h2 e he).elim⟩)).elim)
      have q2 : l2 = true := by
        cases hl : l2 with
        | true => rfl
        | false => exact (by obtain ⟨o, h1, h2⟩ := free20 (j := 2) (by omega); exact (hno 2 (mem_ready.2 ⟨by simp [hl], o, h1, fun e he => (h2 e he).elim⟩)).elim)
      have q3 : l3 = true := by
        cases hl : l3 with
        | true => rfl
        | false => exact (by obtain ⟨o, h1, h2⟩ := free20 (j := 3) (by omega); exact (hno 3 (mem_ready.2 ⟨by simp [hl], o, h1, fun e he => (h2 e he).elim⟩)).elim)
      have q4 : l4 = true := by
        cases hl : l4 with
        | true => rfl
        | false => exact (by obtain ⟨o, h1, h2⟩ := free20 (j := 4) (by omega); exact (hno 4 (mem_ready.2 ⟨by simp [hl], o, h1, fun e he => (h2 e he).elim⟩)).elim)
      have q5 : l5 = true := by
        cases hl : l5 with
        | true => rfl
        | false => exact (by obtain ⟨o, h1, h2⟩ := free20 (j := 5) (by omega); exact (hno 5 (mem_ready.2 ⟨by simp [hl], o, h1, fun e he => (h2 e he).elim⟩)).elim)
      have q6 : l6 = true := by
        cases hl : l6 with
        | true => rfl
        | false => exact (by obtain ⟨o, h1, h2⟩ := free20 (j := 6) (by omega); exact (hno 6 (mem_ready.2 ⟨by simp [hl], o, h1, fun e he => (h2 e he).elim⟩)).elim)
      have q7 : l7 = true := by
        cases hl : l7 with
        | true => rfl
        | false => exact (by obtain ⟨o, h1, h2⟩ := free20 (j := 7) (by omega); exact (hno 7 (mem_ready.2 ⟨by simp [hl], o, h1, fun e he => (h2 e he).elim⟩)).elim)
      have q8 : l8 = true := by
        cases hl : l8 with
        | true => rfl
        | false => exact (by obtain ⟨o, h1, h2⟩ := free20 (j := 8) (by omega); exact (hno 8 (mem_ready.2 ⟨by simp [hl], o, h1, fun e he => (h2 e he).elim⟩)).elim)
      have q9 : l9 = true := by
        cases hl : l9 with
        | true => rfl
        | false => exact (by obtain ⟨o, h1, h2⟩ := free20 (j := 9) (by omega); exact (hno 9 (mem_ready.2 ⟨by simp [hl], o, h1, fun e he => (h2 e he).elim⟩)).elim)
      have q10 : l10 = true := by
        cases hl : l10 with
        | true => rfl
        | false => exact (by obtain ⟨o, h1, h2⟩ := free20 (j := 10) (by omega); exact (hno 10 (mem_ready.2 ⟨by simp [hl], o, h1, fun e he => (h2 e he).elim⟩)).elim)
      have q11 : l11 = true := by
        cases hl : l11 with
        | true => rfl
        | false => exact (by obtain ⟨o, h1, h2⟩ := free20 (j := 11) (by omega); exact (hno 11 (mem_ready.2 ⟨by simp [hl], o, h1, fun e he => (h2 e he).elim⟩)).elim)
      simp [nf, q0, q1, q2, q3, q4, q5, q6, q7, q8, q9, q10, q11] at hm
    · obtain ⟨hun, oi, hoi, haft⟩ := mem_ready.1 hi
      have hlt : i < 15 := (Array.getElem?_eq_some_iff.1 hoi).1
      match i, hlt with
      | 0, _ =>
        obtain rfl : l0 = false := by simpa using hun
        clear hi hun hoi haft
        refine wpOp_shut rfl rfl (fun K hK => ?_)
        go_simp
        refine hK.out _ _ ⟨trivial, ?_⟩
        clear hK K
        try simp only [Act.put, List.setIfInBounds_toArray, List.set_cons_zero, List.set_cons_succ]
        exact ih true l1 l2 l3 l4 l5 l6 l7 l8 l9 l10 l11 _ v1 v2 v3 v4 v5 v6 v7 v8 v9 v10 v11 _ (by simp [nf] at hm ⊢; omega) (hB.alloc hB.size _) (Lit1.new hB.size) (h1.alloc _) (h2.alloc _) (h3.alloc _) (h4.alloc _) (h5.alloc _) (h6.alloc _) (h7.alloc _) (h8.alloc _) (h9.alloc _) (h10.alloc _) (h11.alloc _)
      | 1, _ =>
        obtain rfl : l1 = false := by simpa using hun
        clear hi hun hoi haft
        refine wpOp_shut rfl rfl (fun K hK => ?_)
        go_simp
        refine hK.out _ _ ⟨trivial, ?_⟩
        clear hK K
        try simp only [Act.put, List.setIfInBounds_toArray, List.set_cons_zero, List.set_cons_succ]
        exact ih l0 true l2 l3 l4 l5 l6 l7 l8 l9 l10 l11 v0 _ v2 v3 v4 v5 v6 v7 v8 v9 v10 v11 _ (by simp [nf] at hm ⊢; omega) (hB.alloc hB.size _) (h0.alloc _) (Lit1.new hB.size) (h2.alloc _) (h3.alloc _) (h4.alloc _) (h5.alloc _) (h6.alloc _) (h7.alloc _) (h8.alloc _) (h9.alloc _) (h10.alloc _) (h11.alloc _)
      | 2, _ =>
        obtain rfl : l2 = false := by simpa using hun
        clear hi hun hoi haft
        refine wpOp_shut rfl rfl (fun K hK => ?_)
        go_simp
        refine hK.out _ _ ⟨trivial, ?_⟩
        clear hK K
        try simp only [Act.put, List.setIfInBounds_toArray, List.set_cons_zero, List.set_cons_succ]
        exact ih l0 l1 true l3 l4 l5 l6 l7 l8 l9 l10 l11 v0 v1 _ v3 v4 v5 v6 v7 v8 v9 v10 v11 _ (by simp [nf] at hm ⊢; omega) (hB.alloc hB.size _) (h0.alloc _) (h1.alloc _) (Lit1.new hB.size) (h3.alloc _) (h4.alloc _) (h5.alloc _) (h6.alloc _) (h7.alloc _) (h8.alloc _) (h9.alloc _) (h10.alloc _) (h11.alloc _)
      | 3, _ =>
        obtain rfl : l3 = false := by simpa using hun
        clear hi hun hoi haft
        refine wpOp_shut rfl rfl (fun K hK => ?_)
        go_simp
        refine hK.out _ _ ⟨trivial, ?_⟩
        clear hK K
        try simp only [Act.put, List.setIfInBounds_toArray, List.set_cons_zero, List.set_cons_succ]
        exact ih l0 l1 l2 true l4 l5 l6 l7 l8 l9 l10 l11 v0 v1 v2 _ v4 v5 v6 v7 v8 v9 v10 v11 _ (by simp [nf] at hm ⊢; omega) (hB.alloc hB.size _) (h0.alloc _) (h1.alloc _) (h2.alloc _) (Lit1.new hB.size) (h4.alloc _) (h5.alloc _) (h6.alloc _) (h7.alloc _) (h8.alloc _) (h9.alloc _) (h10.alloc _) (h11.alloc _)
      | 4, _ =>
        obtain rfl : l4 = false := by simpa using hun
        clear hi hun hoi haft
        refine wpOp_shut rfl rfl (fun K hK => ?_)
        go_simp
        refine hK.out _ _ ⟨trivial, ?_⟩
        clear hK K
        try simp only [Act.put, List.setIfInBounds_toArray, List.set_cons_zero, List.set_cons_succ]
        exact ih l0 l1 l2 l3 true l5 l6 l7 l8 l9 l10 l11 v0 v1 v2 v3 _ v5 v6 v7 v8 v9 v10 v11 _ (by simp [nf] at hm ⊢; omega) (hB.alloc hB.size _) (h0.alloc _) (h1.alloc _) (h2.alloc _) (h3.alloc _) (Lit1.new hB.size) (h5.alloc _) (h6.alloc _) (h7.alloc _) (h8.alloc _) (h9.alloc _) (h10.alloc _) (h11.alloc _)
      | 5, _ =>
        obtain rfl : l5 = false := by simpa using hun
        clear hi hun hoi haft
        refine wpOp_shut rfl rfl (fun K hK => ?_)
        go_simp
        refine hK.out _ _ ⟨trivial, ?_⟩
        clear hK K
        try simp only [Act.put, List.setIfInBounds_toArray, List.set_cons_zero, List.set_cons_succ]
        exact ih l0 l1 l2 l3 l4 true l6 l7 l8 l9 l10 l11 v0 v1 v2 v3 v4 _ v6 v7 v8 v9 v10 v11 _ (by simp [nf] at hm ⊢; omega) (hB.alloc hB.size _) (h0.alloc _) (h1.alloc _) (h2.alloc _) (h3.alloc _) (h4.alloc _) (Lit1.new hB.size) (h6.alloc _) (h7.alloc _) (h8.alloc _) (h9.alloc _) (h10.alloc _) (h11.alloc _)
      | 6, _ =>
        obtain rfl : l6 = false := by simpa using hun
        clear hi hun hoi haft
        refine wpOp_shut rfl rfl (fun K hK => ?_)
        go_simp
        refine hK.out _ _ ⟨trivial, ?_⟩
        clear hK K
        try simp only [Act.put, List.setIfInBounds_toArray, List.set_cons_zero, List.set_cons_succ]
        exact ih l0 l1 l2 l3 l4 l5 true l7 l8 l9 l10 l11 v0 v1 v2 v3 v4 v5 _ v7 v8 v9 v10 v11 _ (by simp [nf] at hm ⊢; omega) (hB.alloc hB.size _) (h0.alloc _) (h1.alloc _) (h2.alloc _) (h3.alloc _) (h4.alloc _) (h5.alloc _) (Lit1.new hB.size) (h7.alloc _) (h8.alloc _) (h9.alloc _) (h10.alloc _) (h11.alloc _)
      | 7, _ =>
        obtain rfl : l7 = false := by simpa using hun
        clear hi hun hoi haft
        refine wpOp_shut rfl rfl (fun K hK => ?_)
        go_simp
        refine hK.out _ _ ⟨trivial, ?_⟩
        clear hK K
        try simp only [Act.put, List.setIfInBounds_toArray, List.set_cons_zero, List.set_cons_succ]
        exact ih l0 l1 l2 l3 l4 l5 l6 true l8 l9 l10 l11 v0 v1 v2 v3 v4 v5 v6 _ v8 v9 v10 v11 _ (by simp [nf] at hm ⊢; omega) (hB.alloc hB.size _) (h0.alloc _) (h1.alloc _) (h2.alloc _) (h3.alloc _) (h4.alloc _) (h5.alloc _) (h6.alloc _) (Lit1.new hB.size) (h8.alloc _) (h9.alloc _) (h10.alloc _) (h11.alloc _)
      | 8, _ =>
        obtain rfl : l8 = false := by simpa using hun
        clear hi hun hoi haft
        refine wpOp_shut rfl rfl (fun K hK => ?_)
        have hmk : (Instr.makeSlice 44 (.int .i64 16) (.int .i64 16)).run Try.prog w = .ok (.slice (some ⟨w.heap.size, 0, none⟩) 16 16) (w.alloc (.cells (Zc 16) 3)) := make44 w 16 (by omega)
        go_simp
        refine hK.out _ _ ⟨trivial, ?_⟩
        clear hK K
        try simp only [Act.put, List.setIfInBounds_toArray, List.set_cons_zero, List.set_cons_succ]
        exact ih l0 l1 l2 l3 l4 l5 l6 l7 true l9 l10 l11 v0 v1 v2 v3 v4 v5 v6 v7 _ v9 v10 v11 _ (by simp [nf] at hm ⊢; omega) (hB.alloc hB.size _) (h0.alloc _) (h1.alloc _) (h2.alloc _) (h3.alloc _) (h4.alloc _) (h5.alloc _) (h6.alloc _) (h7.alloc _) (Lit1.new hB.size) (h9.alloc _) (h10.alloc _) (h11.alloc _)
      | 9, _ =>
        obtain rfl : l9 = false := by simpa using hun
        clear hi hun hoi haft
        refine wpOp_shut rfl rfl (fun K hK => ?_)
        have hmk : (Instr.makeSlice 44 (.int .i64 17) (.int .i64 17)).run Try.prog w = .ok (.slice (some ⟨w.heap.size, 0, none⟩) 17 17) (w.alloc (.cells (Zc 17) 3)) := make44 w 17 (by omega)
        go_simp
        refine hK.out _ _ ⟨trivial, ?_⟩
        clear hK K
        try simp only [Act.put, List.setIfInBounds_toArray, List.set_cons_zero, List.set_cons_succ]
        exact ih l0 l1 l2 l3 l4 l5 l6 l7 l8 true l10 l11 v0 v1 v2 v3 v4 v5 v6 v7 v8 _ v10 v11 _ (by simp [nf] at hm ⊢; omega) (hB.alloc hB.size _) (h0.alloc _) (h1.alloc _) (h2.alloc _) (h3.alloc _) (h4.alloc _) (h5.alloc _) (h6.alloc _) (h7.alloc _) (h8.alloc _) (Lit1.new hB.size) (h10.alloc _) (h11.alloc _)
      | 10, _ =>
        obtain rfl : l10 = false := by simpa using hun
        clear hi hun hoi haft
        refine wpOp_shut rfl rfl (fun K hK => ?_)
        go_simp
        refine hK.out _ _ ⟨trivial, ?_⟩
        clear hK K
        try simp only [Act.put, List.setIfInBounds_toArray, List.set_cons_zero, List.set_cons_succ]
        exact ih l0 l1 l2 l3 l4 l5 l6 l7 l8 l9 true l11 v0 v1 v2 v3 v4 v5 v6 v7 v8 v9 _ v11 _ (by simp [nf] at hm ⊢; omega) (hB.alloc hB.size _) (h0.alloc _) (h1.alloc _) (h2.alloc _) (h3.alloc _) (h4.alloc _) (h5.alloc _) (h6.alloc _) (h7.alloc _) (h8.alloc _) (h9.alloc _) (Lit1.new hB.size) (h11.alloc _)
      | 11, _ =>
        obtain rfl : l11 = false := by simpa using hun
        clear hi hun hoi haft
        refine wpOp_shut rfl rfl (fun K hK => ?_)
        go_simp
        refine hK.out _ _ ⟨trivial, ?_⟩
        clear hK K
        try simp only [Act.put, List.setIfInBounds_toArray, List.set_cons_zero, List.set_cons_succ]
        exact ih l0 l1 l2 l3 l4 l5 l6 l7 l8 l9 l10 true v0 v1 v2 v3 v4 v5 v6 v7 v8 v9 v10 _ _ (by simp [nf] at hm ⊢; omega) (hB.alloc hB.size _) (h0.alloc _) (h1.alloc _) (h2.alloc _) (h3.alloc _) (h4.alloc _) (h5.alloc _) (h6.alloc _) (h7.alloc _) (h8.alloc _) (h9.alloc _) (h10.alloc _) (Lit1.new hB.size)
      | 12, _ =>
        exfalso
        have q0 : l0 = true := by
          obtain ⟨e, h1, h2, h3⟩ := any_on hoi (List.all_eq_true.1 aft12 0 (by simp))
          have := haft e h1 h3
          rw [h2] at this
          simpa using this
        have q1 : l1 = true := by
          obtain ⟨e, h1, h2, h3⟩ := any_on hoi (List.all_eq_true.1 aft12 1 (by simp))
          have := haft e h1 h3
          rw [h2] at this
          simpa using this
        have q2 : l2 = true := by
          obtain ⟨e, h1, h2, h3⟩ := any_on hoi (List.all_eq_true.1 aft12 2 (by simp))
          have := haft e h1 h3
          rw [h2] at this
          simpa using this
        have q3 : l3 = true := by
          obtain ⟨e, h1, h2, h3⟩ := any_on hoi (List.all_eq_true.1 aft12 3 (by simp))
          have := haft e h1 h3
          rw [h2] at this
          simpa using this
        have q4 : l4 = true := by
          obtain ⟨e, h1, h2, h3⟩ := any_on hoi (List.all_eq_true.1 aft12 4 (by simp))
          have := haft e h1 h3
          rw [h2] at this
          simpa using this
        have q5 : l5 = true := by
          obtain ⟨e, h1, h2, h3⟩ := any_on hoi (List.all_eq_true.1 aft12 5 (by simp))
          have := haft e h1 h3
          rw [h2] at this
          simpa using this
        have q6 : l6 = true := by
          obtain ⟨e, h1, h2, h3⟩ := any_on hoi (List.all_eq_true.1 aft12 6 (by simp))
          have := haft e h1 h3
          rw [h2] at this
          simpa using this
        have q7 : l7 = true := by
          obtain ⟨e, h1, h2, h3⟩ := any_on hoi (List.all_eq_true.1 aft12 7 (by simp))
          have := haft e h1 h3
          rw [h2] at this
          simpa using this
        have q8 : l8 = true := by
          obtain ⟨e, h1, h2, h3⟩ := any_on hoi (List.all_eq_true.1 aft12 8 (by simp))
          have := haft e h1 h3
          rw [h2] at this
          simpa using this
        have q9 : l9 = true := by
          obtain ⟨e, h1, h2, h3⟩ := any_on hoi (List.all_eq_true.1 aft12 9 (by simp))
          have := haft e h1 h3
          rw [h2] at this
          simpa using this
        have q10 : l10 = true := by
          obtain ⟨e, h1, h2, h3⟩ := any_on hoi (List.all_eq_true.1 aft12 10 (by simp))
          have := haft e h1 h3
          rw [h2] at this
          simpa using this
        have q11 : l11 = true := by
          obtain ⟨e, h1, h2, h3⟩ := any_on hoi (List.all_eq_true.1 aft12 11 (by simp))
          have := haft e h1 h3
          rw [h2] at this
          simpa using this
        simp [nf, q0, q1, q2, q3, q4, q5, q6, q7, q8, q9, q10, q11] at hm
      | 13, _ =>
        exfalso
        obtain ⟨e, h1, h2, h3⟩ := any_on hoi aft13
        have := haft e h1 h3
        rw [h2] at this
        simp at this
      | 14, _ => simp at hun

set_option maxRecDepth 1000000 in
set_option maxHeartbeats 8000000 in
theorem r20 (base : World) (Q : Exit → Act → World → Prop) (hP : ∀ c (a : Act) (t : Tmp) v w, Q (.panic c) (a.put (some t) v) w → Q (.panic c) a w)
    {c0 c1 c2 c3 c4 c5 c6 c7 c8 c9 c10 c11 c12 c13 c14 c15 c16 c17 c18 c19 c20 c21 c22 c23 c24 c25 c26 c27 c28 c29 c30 c31 c32 c33 c34 c35 c36 c37 c38 c39 c40 c41 c42 c43 c44 c45 c46 c47 c48 c49 c50 c51 c52 c53 c54 c55 c56 c57 c58 c59 c60 c61 c62 c63 c64 c65 c66 c67 c68 c69 c70 c71 c72 c73 c74 c75 c76 c77 c78 c79 c80 c81 c82 c83 c84 c85 c86 c87 c88 c89 c90 c91 c92 c93 c94 c95 c96 c97 c98 c99 c100 c101 c102 c103 c104 c105 c106 c107 c108 c109 c110 c111 c112 c113 c114 c115 c116 c117 c118 c119 c135 c136 c137 c138 c139 c140 c141 c142 c143 c144 c145 c146 c147 c148 c149 c150 c151 c152 c153 c154 c155 c156 c157 c158 c159 c160 c161 c162 c163 c164 c165 c166 c167 c168 c169 c170 c171 c172 c173 c174 c175 c176 c177 c178 c179 c180 c181 c182 c183 c184 c185 c186 c187 c188 c189 c190 c191 c192 c193 c194 c195 c196 c197 c198 c199 c200 c201 c202 c203 c204 c205 c206 c207 c208 c209 c210 c211 c212 c213 c214 c215 c216 c217 c218 c219 c220 c221 c222 c223 c224 c225 c226 c227 c228 c229 c230 c231 c232 c233 c234 c235 c236 c237 c238 c239 c240 c241 c242 c243 c244 c245 c246 c247 c248 c249 c250 c251 c252 c253 c254 c255 c256 c257 c258 c259 c260 c261 c262 : Value}
    (hQ : ∀ (b0 b1 b2 b3 b4 b5 b6 b7 b8 b9 b10 b11 B : Nat) (w : World), Below base.heap.size base w → w.heap[b0]? = some (.cells #[.int .i64 1024] 3 (0, 0)) → w.heap[b1]? = some (.cells #[.int .i64 1023, .int .i64 1] 3 (0, 0)) → w.heap[b2]? = some (.cells #[.int .i64 1024, .int .i64 1] 3 (0, 0)) → w.heap[b3]? = some (.cells #[.int .i64 1025] 3 (0, 0)) → w.heap[b4]? = some (.cells #[.int .i64 (-1)] 3 (0, 0)) → w.heap[b5]? = some (.cells #[.int .i64 5, .int .i64 (-1)] 3 (0, 0)) → w.heap[b6]? = some (.cells #[.int .i64 4611686018427387904, .int .i64 4611686018427387904] 3 (0, 0)) → w.heap[b7]? = some (.cells #[.int .i64 (-9223372036854775808)] 3 (0, 0)) → w.heap[b8]? = some (.cells (Zc 16) 3 (0, 0)) → w.heap[b9]? = some (.cells (Zc 17) 3 (0, 0)) → w.heap[b10]? = some (.cells #[.int .i64 1024, .int .i64 0, .int .i64 0] 3 (0, 0)) → w.heap[b11]? = some (.cells #[.int .i64 512, .int .i64 513] 3 (0, 0)) → w.heap[B]? = some (.cells #[.slice (some ⟨b0, 0, none⟩) 1 1, .slice (some ⟨b1, 0, none⟩) 2 2, .slice (some ⟨b2, 0, none⟩) 2 2, .slice (some ⟨b3, 0, none⟩) 1 1, .slice (some ⟨b4, 0, none⟩) 1 1, .slice (some ⟨b5, 0, none⟩) 2 2, .slice (some ⟨b6, 0, none⟩) 2 2, .slice (some ⟨b7, 0, none⟩) 1 1, .slice (some ⟨b8, 0, none⟩) 16 16, .slice (some ⟨b9, 0, none⟩) 17 17, .slice (some ⟨b10, 0, none⟩) 3 3, .slice (some ⟨b11, 0, none⟩) 2 2] 44 (0, 0)) → Q .normal ⟨#[c0, c1, c2, c3, c4, c5, c6, c7, c8, c9, c10, c11, c12, c13, c14, c15, c16, c17, c18, c19, c20, c21, c22, c23, c24, c25, c26, c27, c28, c29, c30, c31, c32, c33, c34, c35, c36, c37, c38, c39, c40, c41, c42, c43, c44, c45, c46, c47, c48, c49, c50, c51, c52, c53, c54, c55, c56, c57, c58, c59, c60, c61, c62, c63, c64, c65, c66, c67, c68, c69, c70, c71, c72, c73, c74, c75, c76, c77, c78, c79, c80, c81, c82, c83, c84, c85, c86, c87, c88, c89, c90, c91, c92, c93, c94, c95, c96, c97, c98, c99, c100, c101, c102, c103, c104, c105, c106, c107, c108, c109, c110, c111, c112, c113, c114, c115, c116, c117, c118, c119, .slice (some ⟨b0, 0, none⟩) 1 1, .slice (some ⟨b1, 0, none⟩) 2 2, .slice (some ⟨b2, 0, none⟩) 2 2, .slice (some ⟨b3, 0, none⟩) 1 1, .slice (some ⟨b4, 0, none⟩) 1 1, .slice (some ⟨b5, 0, none⟩) 2 2, .slice (some ⟨b6, 0, none⟩) 2 2, .slice (some ⟨b7, 0, none⟩) 1 1, .slice (some ⟨b8, 0, none⟩) 16 16, .slice (some ⟨b9, 0, none⟩) 17 17, .slice (some ⟨b10, 0, none⟩) 3 3, .slice (some ⟨b11, 0, none⟩) 2 2, .slice (some ⟨B, 0, none⟩) 12 12, .int .i64 12, .int .i64 0, c135, c136, c137, c138, c139, c140, c141, c142, c143, c144, c145, c146, c147, c148, c149, c150, c151, c152, c153, c154, c155, c156, c157, c158, c159, c160, c161, c162, c163, c164, c165, c166, c167, c168, c169, c170, c171, c172, c173, c174, c175, c176, c177, c178, c179, c180, c181, c182, c183, c184, c185, c186, c187, c188, c189, c190, c191, c192, c193, c194, c195, c196, c197, c198, c199, c200, c201, c202, c203, c204, c205, c206, c207, c208, c209, c210, c211, c212, c213, c214, c215, c216, c217, c218, c219, c220, c221, c222, c223, c224, c225, c226, c227, c228, c229, c230, c231, c232, c233, c234, c235, c236, c237, c238, c239, c240, c241, c242, c243, c244, c245, c246, c247, c248, c249, c250, c251, c252, c253, c254, c255, c256, c257, c258, c259, c260, c261, c262], []⟩ w) :
    Code.wp Try.prog piece20 Q ⟨#[c0, c1, c2, c3, c4, c5, c6, c7, c8, c9, c10, c11, c12, c13, c14, c15, c16, c17, c18, c19, c20, c21, c22, c23, c24, c25, c26, c27, c28, c29, c30, c31, c32, c33, c34, c35, c36, c37, c38, c39, c40, c41, c42, c43, c44, c45, c46, c47, c48, c49, c50, c51, c52, c53, c54, c55, c56, c57, c58, c59, c60, c61, c62, c63, c64, c65, c66, c67, c68, c69, c70, c71, c72, c73, c74, c75, c76, c77, c78, c79, c80, c81, c82, c83, c84, c85, c86, c87, c88, c89, c90, c91, c92, c93, c94, c95, c96, c97, c98, c99, c100, c101, c102, c103, c104, c105, c106, c107, c108, c109, c110, c111, c112, c113, c114, c115, c116, c117, c118, c119, undef, undef, undef, undef, undef, undef, undef, undef, undef, undef, undef, undef, undef, undef, undef, c135, c136, c137, c138, c139, c140, c141, c142, c143, c144, c145, c146, c147, c148, c149, c150, c151, c152, c153, c154, c155, c156, c157, c158, c159, c160, c161, c162, c163, c164, c165, c166, c167, c168, c169, c170, c171, c172, c173, c174, c175, c176, c177, c178, c179, c180, c181, c182, c183, c184, c185, c186, c187, c188, c189, c190, c191, c192, c193, c194, c195, c196, c197, c198, c199, c200, c201, c202, c203, c204, c205, c206, c207, c208, c209, c210, c211, c212, c213, c214, c215, c216, c217, c218, c219, c220, c221, c222, c223, c224, c225, c226, c227, c228, c229, c230, c231, c232, c233, c234, c235, c236, c237, c238, c239, c240, c241, c242, c243, c244, c245, c246, c247, c248, c249, c250, c251, c252, c253, c254, c255, c256, c257, c258, c259, c260, c261, c262], []⟩ base := by
  have HQ := Hd.mk hQ
  clear hQ
  refine wp_region_held_drew (S := fun _ => True) (by kernel_rfl) trivial (fun hS_ => ?_)
  refine takeW 14 ?_ rfl (by kernel_rfl) (by kernel_rfl) (by kernel_rfl) (fun c a w h => hP c a _ _ w h) (by rfl) ?_ hS_ ?_
  rotate_left
  · intro w hSw
    go_simp
    with_reducible rfl
  try simp only [Act.put, List.setIfInBounds_toArray, List.set_cons_zero, List.set_cons_succ]
  refine r20_any base Q ?_ 12 false false false false false false false false false false false false undef undef undef undef undef undef undef undef undef undef undef undef _ rfl (Below.refl _ _).drew (fun h => by cases h) (fun h => by cases h) (fun h => by cases h) (fun h => by cases h) (fun h => by cases h) (fun h => by cases h) (fun h => by cases h) (fun h => by cases h) (fun h => by cases h) (fun h => by cases h) (fun h => by cases h) (fun h => by cases h)
  intro b0 b1 b2 b3 b4 b5 b6 b7 b8 b9 b10 b11 w hB k0 k1 k2 k3 k4 k5 k6 k7 k8 k9 k10 k11
  refine wpAnyH_ready (rs := [12]) (by kernel_rfl) (by simp) (readyL rfl (fun K hK => ?_) AllReadyH.nil)
  go_simp
  refine hK.out _ _ trivial (fun _ => ?_)
  clear hK K
  try simp only [Act.put, List.setIfInBounds_toArray, List.set_cons_zero, List.set_cons_succ]
  refine takeW 13 ?_ rfl (by kernel_rfl) (by kernel_rfl) (by kernel_rfl) (fun c a w h => hP c a _ _ w h) (by rfl) ?_ trivial ?_
  rotate_left
  · intro w hSw
    go_simp
    with_reducible rfl
  try simp only [Act.put, List.setIfInBounds_toArray, List.set_cons_zero, List.set_cons_succ]
  refine wpAnyH_done (by kernel_rfl) ?_ _
  exact HQ.out b0 b1 b2 b3 b4 b5 b6 b7 b8 b9 b10 b11 _ _ (hB.alloc hB.size _) ((Below.heap_alloc _ _ _ (lt_of_heap k0)).trans k0) ((Below.heap_alloc _ _ _ (lt_of_heap k1)).trans k1) ((Below.heap_alloc _ _ _ (lt_of_heap k2)).trans k2) ((Below.heap_alloc _ _ _ (lt_of_heap k3)).trans k3) ((Below.heap_alloc _ _ _ (lt_of_heap k4)).trans k4) ((Below.heap_alloc _ _ _ (lt_of_heap k5)).trans k5) ((Below.heap_alloc _ _ _ (lt_of_heap k6)).trans k6) ((Below.heap_alloc _ _ _ (lt_of_heap k7)).trans k7) ((Below.heap_alloc _ _ _ (lt_of_heap k8)).trans k8) ((Below.heap_alloc _ _ _ (lt_of_heap k9)).trans k9) ((Below.heap_alloc _ _ _ (lt_of_heap k10)).trans k10) ((Below.heap_alloc _ _ _ (lt_of_heap k11)).trans k11) (heap_alloc_new _ _)
end Go.Proofs.Ytnhkadknibinfaa
