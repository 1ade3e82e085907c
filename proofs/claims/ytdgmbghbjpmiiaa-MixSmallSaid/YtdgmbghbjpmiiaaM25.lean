/- The law MixSmall: region 25, which draws its order, as a theorem of its own. -/
import Derived.Test.YtdgmbghbjpmiiaaL5
import Derived.Test.YtdgmbghbjpmiiaaL4
import Derived.Deep.RegionHeld3
namespace Go.Proofs.Ytdgmbghbjpmiiaa
open Go.RowKit
set_option linter.unusedVariables false
set_option linter.unusedSimpArgs false

/-- 'wpAnyH_take', the operation read off the list: so that it stands written out. -/
theorem wpAnyH_takeL {P : Program} {md : Region.Mode} {ops : Array Oper} {Q : Exit → Act → World → Prop} {S : World → Prop} (i : Nat) {oi : Oper} (v : Value) {fuel : Nat} {listed : Array Bool} {a : Act} {w : World} (hi : ops.toList[i]? = some oi)
    (hs : Region.noSelect ops = true) (hf : Region.free md ops listed i = true) (hr : (Region.ready md ops listed).contains i = true)
    (hQ : ∀ c a w, Q (.panic c) (a.put oi.dst v) w → Q (.panic c) a w) (hg : oi.guard = none) (hy : ∀ w, S w → (execOp a.eval oi).run P w = .ok (.value v) w) (hS : S w)
    (h : wpAnyH P md ops Q S fuel (listed.setIfInBounds i true) (a.put oi.dst v) w) : wpAnyH P md ops Q S (fuel + 1) listed a w :=
  wpAnyH_take (by rw [← Array.getElem?_toList]; exact hi) hs hf hr hQ (Or.inl ⟨by simp [Region.wanted, hg], hy⟩) hS h
/-- 'AllReadyH.cons', the operation read off the list. -/
theorem allReadyH_consL {P : Program} {md : Region.Mode} {ops : Array Oper} {Q : Exit → Act → World → Prop} {S : World → Prop} {fuel : Nat} {listed : Array Bool} {a : Act} {w : World} {i : Nat} {o : Oper} {rs : List Nat} (ho : ops.toList[i]? = some o)
    (h : ∀ K' : Act → World → Prop, Shut (∀ a w, S w → (S w → wpAnyH P md ops Q S fuel (listed.setIfInBounds i true) a w) → K' a w) → if Region.wanted o (yielded ops a.tmps) = true then Oper.wp P o a w K' Q else K' (a.put o.dst undef) w)
    (hs : AllReadyH P md ops Q S fuel listed a w rs) : AllReadyH P md ops Q S fuel listed a w (i :: rs) :=
  AllReadyH.cons (by rw [← Array.getElem?_toList]; exact ho) h hs

theorem one25 (b : UInt8) : ByteArray.size ⟨#[b]⟩ = 1 := rfl
def regOf (n : Nat) : Code → Option Code
  | .region id ops b => if id = n then some (.region id ops b) else none
  | .seq a b => match regOf n a with
    | some c => some c
    | none => regOf n b
  | .block _ c => regOf n c
  | .loop c => regOf n c
  | .scope c => regOf n c
  | .cond _ a b => match regOf n a with
    | some c => some c
    | none => regOf n b
  | _ => none
noncomputable def piece25 : Code := ((Try.f6.body.bind (regOf 25)).getD .skip)

set_option maxRecDepth 1000000 in
set_option maxHeartbeats 8000000 in
theorem r25 (T : ByteArray) (hT : T.size = 13) (i k : Nat) (hi : i ≤ 13) (hk : k ≤ 13) (wr : World) (Q : Exit → Act → World → Prop) (hP : ∀ c (a : Act) (t : Tmp) v w, Q (.panic c) (a.put (some t) v) w → Q (.panic c) a w)
    {c0 c1 c2 c3 c4 c8 c9 c10 c11 c12 c13 c14 c15 c16 c17 c18 c19 c20 c21 c22 c23 c24 c25 c26 c27 c28 c29 c30 c31 c32 c33 c34 c35 c36 c37 c38 c39 c40 c41 c42 c43 c44 c45 c46 c47 c48 c49 c50 c51 c52 c53 c54 c55 c56 c57 c58 c59 c60 c61 c62 c63 c64 c65 c66 c67 c68 c69 c70 c71 c72 c73 c74 c75 c76 c77 c78 c79 c80 c81 c82 c83 c84 c85 c86 c87 c88 c89 c90 c91 c92 c93 c94 c95 c96 c97 c98 c99 c100 c101 c102 c103 c104 c105 c106 c107 c108 c109 c110 c111 c112 c113 c114 c115 c116 c117 c118 c119 c120 c121 c122 c123 c124 c125 c126 c127 c128 c129 c130 c131 c132 c133 c134 c135 c136 c137 c138 c139 c140 c141 c142 c143 c144 c145 c146 c147 c148 c149 c150 c151 c152 c153 c154 c155 c156 c157 c158 c159 c160 c161 c162 c163 c164 c165 c166 c167 c168 c169 c170 c171 : Value}
    (hQ : ∀ {u81 u82 u83 u84 u85 u86 u87 u88 u89 u90 u91 u92 u93 u94 u95 u96 u97 u98 u99 u100 u101 u102 u103 u104 u105 u106 u107 u108 u109 u110 u111 u112 u113 u114 u115 u116 u117 u118 u119 u120 u121 u122 u123 u124 u125 u126 u127 u128 u129 u130 u131 u132 u133 u134 u135 u136 u137 u138 u139 u140 u141 u142 u143 u144 u145 u146 u147 u148 u149 u150 : Value} (g : Nat) (s0 s1 s2 s3 s4 s5 s6 s7 s8 s9 : ByteArray) (wx : World), s0.size ≤ 100 → s1.size ≤ 100 → s2.size ≤ 100 → s3.size ≤ 100 → s4.size ≤ 100 → s5.size ≤ 100 → s6.size ≤ 100 → s7.size ≤ 100 → s8.size ≤ 100 → s9.size ≤ 100 →
      wx.heap[g]? = some (.cells #[.string s0, .string s1, .string s2, .string s3, .string s4, .string s5, .string s6, .string s7, .string s8, .string s9] 9 (0, 0)) → Below wr.heap.size wr wx → Q .normal ⟨#[c0, c1, c2, c3, c4, .string T, .int .i64 (i : Int), .int .i64 (k : Int), c8, c9, c10, c11, c12, c13, c14, c15, c16, c17, c18, c19, c20, c21, c22, c23, c24, c25, c26, c27, c28, c29, c30, c31, c32, c33, c34, c35, c36, c37, c38, c39, c40, c41, c42, c43, c44, c45, c46, c47, c48, c49, c50, c51, c52, c53, c54, c55, c56, c57, c58, c59, c60, c61, c62, c63, c64, c65, c66, c67, c68, c69, c70, c71, c72, c73, c74, c75, c76, c77, c78, c79, c80, u81, u82, u83, u84, u85, u86, u87, u88, u89, u90, u91, u92, u93, u94, u95, u96, u97, u98, u99, u100, u101, u102, u103, u104, u105, u106, u107, u108, u109, u110, u111, u112, u113, u114, u115, u116, u117, u118, u119, u120, u121, u122, u123, u124, u125, u126, u127, u128, u129, u130, u131, u132, u133, u134, u135, u136, u137, u138, u139, u140, u141, u142, u143, u144, u145, u146, u147, u148, u149, u150, .slice (some ⟨g, 0, none⟩) 10 10, .int .i64 10, .int .i64 0, c154, c155, c156, c157, c158, c159, c160, c161, c162, c163, c164, c165, c166, c167, c168, c169, c170, c171], []⟩ wx) :
    Code.wp Try.prog piece25 Q ⟨#[c0, c1, c2, c3, c4, .string T, .int .i64 (i : Int), .int .i64 (k : Int), c8, c9, c10, c11, c12, c13, c14, c15, c16, c17, c18, c19, c20, c21, c22, c23, c24, c25, c26, c27, c28, c29, c30, c31, c32, c33, c34, c35, c36, c37, c38, c39, c40, c41, c42, c43, c44, c45, c46, c47, c48, c49, c50, c51, c52, c53, c54, c55, c56, c57, c58, c59, c60, c61, c62, c63, c64, c65, c66, c67, c68, c69, c70, c71, c72, c73, c74, c75, c76, c77, c78, c79, c80, c81, c82, c83, c84, c85, c86, c87, c88, c89, c90, c91, c92, c93, c94, c95, c96, c97, c98, c99, c100, c101, c102, c103, c104, c105, c106, c107, c108, c109, c110, c111, c112, c113, c114, c115, c116, c117, c118, c119, c120, c121, c122, c123, c124, c125, c126, c127, c128, c129, c130, c131, c132, c133, c134, c135, c136, c137, c138, c139, c140, c141, c142, c143, c144, c145, c146, c147, c148, c149, c150, c151, c152, c153, c154, c155, c156, c157, c158, c159, c160, c161, c162, c163, c164, c165, c166, c167, c168, c169, c170, c171], []⟩ wr := by
  have HQ := Hd.mk @hQ
  clear hQ
  have i0 : (0 : Int) ≤ (i : Int) := by omega
  have i1 : (i : Int) ≤ 13 := by omega
  have k0 : (0 : Int) ≤ (k : Int) := by omega
  have k1 : (k : Int) ≤ 13 := by omega
  conv => arg 2; whnf
  refine wp_region_held_drew (S := fun _ => True) (by kernel_rfl) trivial (fun _ => ?_)
  have n1 : ¬ (9223372036854775807 < i + 1) := by omega
  have n2 : ¬ (9223372036854775807 < k + 1) := by omega
  have n3 : ¬ (9223372036854775807 < k + 1 + (13 - i)) := by omega
  have n4 : ¬ (9223372036854775807 < i + 1 + (13 - i)) := by omega
  refine wpAnyH_takeL 0 (.string T) rfl (by decide +kernel) (by decide +kernel) (by decide +kernel) (fun c a w h => hP c a _ _ w h) rfl ?_ trivial ?_
  · intro w hSw
    go_simp
  try simp only [Act.put, List.setIfInBounds_toArray, List.set_cons_zero, List.set_cons_succ]
  refine wpAnyH_takeL 1 (.int .i64 (i : Int)) rfl (by decide +kernel) (by decide +kernel) (by decide +kernel) (fun c a w h => hP c a _ _ w h) rfl ?_ trivial ?_
  · intro w hSw
    go_simp
  try simp only [Act.put, List.setIfInBounds_toArray, List.set_cons_zero, List.set_cons_succ]
  refine wpAnyH_takeL 2 (.string (T.extract 0 i)) rfl (by decide +kernel) (by decide +kernel) (by decide +kernel) (fun c a w h => hP c a _ _ w h) rfl ?_ trivial ?_
  · intro w hSw
    go_simp
  try simp only [Act.put, List.setIfInBounds_toArray, List.set_cons_zero, List.set_cons_succ]
  refine wpAnyH_takeL 3 (.string T) rfl (by decide +kernel) (by decide +kernel) (by decide +kernel) (fun c a w h => hP c a _ _ w h) rfl ?_ trivial ?_
  · intro w hSw
    go_simp
  try simp only [Act.put, List.setIfInBounds_toArray, List.set_cons_zero, List.set_cons_succ]
  refine wpAnyH_takeL 4 (.int .i64 (i : Int)) rfl (by decide +kernel) (by decide +kernel) (by decide +kernel) (fun c a w h => hP c a _ _ w h) rfl ?_ trivial ?_
  · intro w hSw
    go_simp
  try simp only [Act.put, List.setIfInBounds_toArray, List.set_cons_zero, List.set_cons_succ]
  refine wpAnyH_takeL 5 (.string (T.extract i 13)) rfl (by decide +kernel) (by decide +kernel) (by decide +kernel) (fun c a w h => hP c a _ _ w h) rfl ?_ trivial ?_
  · intro w hSw
    go_simp
  try simp only [Act.put, List.setIfInBounds_toArray, List.set_cons_zero, List.set_cons_succ]
  refine wpAnyH_takeL 6 (.string T) rfl (by decide +kernel) (by decide +kernel) (by decide +kernel) (fun c a w h => hP c a _ _ w h) rfl ?_ trivial ?_
  · intro w hSw
    go_simp
  try simp only [Act.put, List.setIfInBounds_toArray, List.set_cons_zero, List.set_cons_succ]
  refine wpAnyH_takeL 7 (.int .i64 (i : Int)) rfl (by decide +kernel) (by decide +kernel) (by decide +kernel) (fun c a w h => hP c a _ _ w h) rfl ?_ trivial ?_
  · intro w hSw
    go_simp
  try simp only [Act.put, List.setIfInBounds_toArray, List.set_cons_zero, List.set_cons_succ]
  refine wpAnyH_takeL 8 (.string (T.extract 0 i)) rfl (by decide +kernel) (by decide +kernel) (by decide +kernel) (fun c a w h => hP c a _ _ w h) rfl ?_ trivial ?_
  · intro w hSw
    go_simp
  try simp only [Act.put, List.setIfInBounds_toArray, List.set_cons_zero, List.set_cons_succ]
  refine wpAnyH_takeL 9 (.string ((T.extract 0 i) ++ ⟨#[48]⟩)) rfl (by decide +kernel) (by decide +kernel) (by decide +kernel) (fun c a w h => hP c a _ _ w h) rfl ?_ trivial ?_
  · intro w hSw
    go_simp
  try simp only [Act.put, List.setIfInBounds_toArray, List.set_cons_zero, List.set_cons_succ]
  refine wpAnyH_takeL 10 (.string T) rfl (by decide +kernel) (by decide +kernel) (by decide +kernel) (fun c a w h => hP c a _ _ w h) rfl ?_ trivial ?_
  · intro w hSw
    go_simp
  try simp only [Act.put, List.setIfInBounds_toArray, List.set_cons_zero, List.set_cons_succ]
  refine wpAnyH_takeL 11 (.int .i64 (i : Int)) rfl (by decide +kernel) (by decide +kernel) (by decide +kernel) (fun c a w h => hP c a _ _ w h) rfl ?_ trivial ?_
  · intro w hSw
    go_simp
  try simp only [Act.put, List.setIfInBounds_toArray, List.set_cons_zero, List.set_cons_succ]
  refine wpAnyH_takeL 12 (.string (T.extract i 13)) rfl (by decide +kernel) (by decide +kernel) (by decide +kernel) (fun c a w h => hP c a _ _ w h) rfl ?_ trivial ?_
  · intro w hSw
    go_simp
  try simp only [Act.put, List.setIfInBounds_toArray, List.set_cons_zero, List.set_cons_succ]
  refine wpAnyH_takeL 13 (.string (((T.extract 0 i) ++ ⟨#[48]⟩) ++ (T.extract i 13))) rfl (by decide +kernel) (by decide +kernel) (by decide +kernel) (fun c a w h => hP c a _ _ w h) rfl ?_ trivial ?_
  · intro w hSw
    go_simp
  try simp only [Act.put, List.setIfInBounds_toArray, List.set_cons_zero, List.set_cons_succ]
  refine wpAnyH_takeL 14 (.string T) rfl (by decide +kernel) (by decide +kernel) (by decide +kernel) (fun c a w h => hP c a _ _ w h) rfl ?_ trivial ?_
  · intro w hSw
    go_simp
  try simp only [Act.put, List.setIfInBounds_toArray, List.set_cons_zero, List.set_cons_succ]
  refine wpAnyH_takeL 15 (.int .i64 (k : Int)) rfl (by decide +kernel) (by decide +kernel) (by decide +kernel) (fun c a w h => hP c a _ _ w h) rfl ?_ trivial ?_
  · intro w hSw
    go_simp
  try simp only [Act.put, List.setIfInBounds_toArray, List.set_cons_zero, List.set_cons_succ]
  refine wpAnyH_takeL 16 (.string (T.extract 0 k)) rfl (by decide +kernel) (by decide +kernel) (by decide +kernel) (fun c a w h => hP c a _ _ w h) rfl ?_ trivial ?_
  · intro w hSw
    go_simp
  try simp only [Act.put, List.setIfInBounds_toArray, List.set_cons_zero, List.set_cons_succ]
  refine wpAnyH_takeL 17 (.string ((T.extract 0 k) ++ ⟨#[119]⟩)) rfl (by decide +kernel) (by decide +kernel) (by decide +kernel) (fun c a w h => hP c a _ _ w h) rfl ?_ trivial ?_
  · intro w hSw
    go_simp
  try simp only [Act.put, List.setIfInBounds_toArray, List.set_cons_zero, List.set_cons_succ]
  refine wpAnyH_takeL 18 (.string T) rfl (by decide +kernel) (by decide +kernel) (by decide +kernel) (fun c a w h => hP c a _ _ w h) rfl ?_ trivial ?_
  · intro w hSw
    go_simp
  try simp only [Act.put, List.setIfInBounds_toArray, List.set_cons_zero, List.set_cons_succ]
  refine wpAnyH_takeL 19 (.int .i64 (i : Int)) rfl (by decide +kernel) (by decide +kernel) (by decide +kernel) (fun c a w h => hP c a _ _ w h) rfl ?_ trivial ?_
  · intro w hSw
    go_simp
  try simp only [Act.put, List.setIfInBounds_toArray, List.set_cons_zero, List.set_cons_succ]
  refine wpAnyH_takeL 20 (.string (T.extract i 13)) rfl (by decide +kernel) (by decide +kernel) (by decide +kernel) (fun c a w h => hP c a _ _ w h) rfl ?_ trivial ?_
  · intro w hSw
    go_simp
  try simp only [Act.put, List.setIfInBounds_toArray, List.set_cons_zero, List.set_cons_succ]
  refine wpAnyH_takeL 21 (.string (((T.extract 0 k) ++ ⟨#[119]⟩) ++ (T.extract i 13))) rfl (by decide +kernel) (by decide +kernel) (by decide +kernel) (fun c a w h => hP c a _ _ w h) rfl ?_ trivial ?_
  · intro w hSw
    go_simp
  try simp only [Act.put, List.setIfInBounds_toArray, List.set_cons_zero, List.set_cons_succ]
  refine wpAnyH_takeL 22 (.string T) rfl (by decide +kernel) (by decide +kernel) (by decide +kernel) (fun c a w h => hP c a _ _ w h) rfl ?_ trivial ?_
  · intro w hSw
    go_simp
  try simp only [Act.put, List.setIfInBounds_toArray, List.set_cons_zero, List.set_cons_succ]
  refine wpAnyH_takeL 23 (.int .i64 (k : Int)) rfl (by decide +kernel) (by decide +kernel) (by decide +kernel) (fun c a w h => hP c a _ _ w h) rfl ?_ trivial ?_
  · intro w hSw
    go_simp
  try simp only [Act.put, List.setIfInBounds_toArray, List.set_cons_zero, List.set_cons_succ]
  refine wpAnyH_takeL 24 (.string (T.extract 0 k)) rfl (by decide +kernel) (by decide +kernel) (by decide +kernel) (fun c a w h => hP c a _ _ w h) rfl ?_ trivial ?_
  · intro w hSw
    go_simp
  try simp only [Act.put, List.setIfInBounds_toArray, List.set_cons_zero, List.set_cons_succ]
  refine wpAnyH_takeL 25 (.string ((T.extract 0 k) ++ ⟨#[86]⟩)) rfl (by decide +kernel) (by decide +kernel) (by decide +kernel) (fun c a w h => hP c a _ _ w h) rfl ?_ trivial ?_
  · intro w hSw
    go_simp
  try simp only [Act.put, List.setIfInBounds_toArray, List.set_cons_zero, List.set_cons_succ]
  refine wpAnyH_takeL 26 (.string T) rfl (by decide +kernel) (by decide +kernel) (by decide +kernel) (fun c a w h => hP c a _ _ w h) rfl ?_ trivial ?_
  · intro w hSw
    go_simp
  try simp only [Act.put, List.setIfInBounds_toArray, List.set_cons_zero, List.set_cons_succ]
  refine wpAnyH_takeL 27 (.int .i64 (i : Int)) rfl (by decide +kernel) (by decide +kernel) (by decide +kernel) (fun c a w h => hP c a _ _ w h) rfl ?_ trivial ?_
  · intro w hSw
    go_simp
  try simp only [Act.put, List.setIfInBounds_toArray, List.set_cons_zero, List.set_cons_succ]
  refine wpAnyH_takeL 28 (.string (T.extract i 13)) rfl (by decide +kernel) (by decide +kernel) (by decide +kernel) (fun c a w h => hP c a _ _ w h) rfl ?_ trivial ?_
  · intro w hSw
    go_simp
  try simp only [Act.put, List.setIfInBounds_toArray, List.set_cons_zero, List.set_cons_succ]
  refine wpAnyH_takeL 29 (.string (((T.extract 0 k) ++ ⟨#[86]⟩) ++ (T.extract i 13))) rfl (by decide +kernel) (by decide +kernel) (by decide +kernel) (fun c a w h => hP c a _ _ w h) rfl ?_ trivial ?_
  · intro w hSw
    go_simp
  try simp only [Act.put, List.setIfInBounds_toArray, List.set_cons_zero, List.set_cons_succ]
  refine wpAnyH_takeL 30 (.string T) rfl (by decide +kernel) (by decide +kernel) (by decide +kernel) (fun c a w h => hP c a _ _ w h) rfl ?_ trivial ?_
  · intro w hSw
    go_simp
  try simp only [Act.put, List.setIfInBounds_toArray, List.set_cons_zero, List.set_cons_succ]
  refine wpAnyH_takeL 31 (.int .i64 (k : Int)) rfl (by decide +kernel) (by decide +kernel) (by decide +kernel) (fun c a w h => hP c a _ _ w h) rfl ?_ trivial ?_
  · intro w hSw
    go_simp
  try simp only [Act.put, List.setIfInBounds_toArray, List.set_cons_zero, List.set_cons_succ]
  refine wpAnyH_takeL 32 (.string (T.extract 0 k)) rfl (by decide +kernel) (by decide +kernel) (by decide +kernel) (fun c a w h => hP c a _ _ w h) rfl ?_ trivial ?_
  · intro w hSw
    go_simp
  try simp only [Act.put, List.setIfInBounds_toArray, List.set_cons_zero, List.set_cons_succ]
  refine wpAnyH_takeL 33 (.string ((T.extract 0 k) ++ ⟨#[103]⟩)) rfl (by decide +kernel) (by decide +kernel) (by decide +kernel) (fun c a w h => hP c a _ _ w h) rfl ?_ trivial ?_
  · intro w hSw
    go_simp
  try simp only [Act.put, List.setIfInBounds_toArray, List.set_cons_zero, List.set_cons_succ]
  refine wpAnyH_takeL 34 (.string T) rfl (by decide +kernel) (by decide +kernel) (by decide +kernel) (fun c a w h => hP c a _ _ w h) rfl ?_ trivial ?_
  · intro w hSw
    go_simp
  try simp only [Act.put, List.setIfInBounds_toArray, List.set_cons_zero, List.set_cons_succ]
  refine wpAnyH_takeL 35 (.int .i64 (i : Int)) rfl (by decide +kernel) (by decide +kernel) (by decide +kernel) (fun c a w h => hP c a _ _ w h) rfl ?_ trivial ?_
  · intro w hSw
    go_simp
  try simp only [Act.put, List.setIfInBounds_toArray, List.set_cons_zero, List.set_cons_succ]
  refine wpAnyH_takeL 36 (.string (T.extract i 13)) rfl (by decide +kernel) (by decide +kernel) (by decide +kernel) (fun c a w h => hP c a _ _ w h) rfl ?_ trivial ?_
  · intro w hSw
    go_simp
  try simp only [Act.put, List.setIfInBounds_toArray, List.set_cons_zero, List.set_cons_succ]
  refine wpAnyH_takeL 37 (.string (((T.extract 0 k) ++ ⟨#[103]⟩) ++ (T.extract i 13))) rfl (by decide +kernel) (by decide +kernel) (by decide +kernel) (fun c a w h => hP c a _ _ w h) rfl ?_ trivial ?_
  · intro w hSw
    go_simp
  try simp only [Act.put, List.setIfInBounds_toArray, List.set_cons_zero, List.set_cons_succ]
  refine wpAnyH_takeL 38 (.string T) rfl (by decide +kernel) (by decide +kernel) (by decide +kernel) (fun c a w h => hP c a _ _ w h) rfl ?_ trivial ?_
  · intro w hSw
    go_simp
  try simp only [Act.put, List.setIfInBounds_toArray, List.set_cons_zero, List.set_cons_succ]
  refine wpAnyH_takeL 39 (.int .i64 (k : Int)) rfl (by decide +kernel) (by decide +kernel) (by decide +kernel) (fun c a w h => hP c a _ _ w h) rfl ?_ trivial ?_
  · intro w hSw
    go_simp
  try simp only [Act.put, List.setIfInBounds_toArray, List.set_cons_zero, List.set_cons_succ]
  refine wpAnyH_takeL 40 (.string (T.extract 0 k)) rfl (by decide +kernel) (by decide +kernel) (by decide +kernel) (fun c a w h => hP c a _ _ w h) rfl ?_ trivial ?_
  · intro w hSw
    go_simp
  try simp only [Act.put, List.setIfInBounds_toArray, List.set_cons_zero, List.set_cons_succ]
  refine wpAnyH_takeL 41 (.string ((T.extract 0 k) ++ ⟨#[47]⟩)) rfl (by decide +kernel) (by decide +kernel) (by decide +kernel) (fun c a w h => hP c a _ _ w h) rfl ?_ trivial ?_
  · intro w hSw
    go_simp
  try simp only [Act.put, List.setIfInBounds_toArray, List.set_cons_zero, List.set_cons_succ]
  refine wpAnyH_takeL 42 (.string T) rfl (by decide +kernel) (by decide +kernel) (by decide +kernel) (fun c a w h => hP c a _ _ w h) rfl ?_ trivial ?_
  · intro w hSw
    go_simp
  try simp only [Act.put, List.setIfInBounds_toArray, List.set_cons_zero, List.set_cons_succ]
  refine wpAnyH_takeL 43 (.int .i64 (i : Int)) rfl (by decide +kernel) (by decide +kernel) (by decide +kernel) (fun c a w h => hP c a _ _ w h) rfl ?_ trivial ?_
  · intro w hSw
    go_simp
  try simp only [Act.put, List.setIfInBounds_toArray, List.set_cons_zero, List.set_cons_succ]
  refine wpAnyH_takeL 44 (.string (T.extract i 13)) rfl (by decide +kernel) (by decide +kernel) (by decide +kernel) (fun c a w h => hP c a _ _ w h) rfl ?_ trivial ?_
  · intro w hSw
    go_simp
  try simp only [Act.put, List.setIfInBounds_toArray, List.set_cons_zero, List.set_cons_succ]
  refine wpAnyH_takeL 45 (.string (((T.extract 0 k) ++ ⟨#[47]⟩) ++ (T.extract i 13))) rfl (by decide +kernel) (by decide +kernel) (by decide +kernel) (fun c a w h => hP c a _ _ w h) rfl ?_ trivial ?_
  · intro w hSw
    go_simp
  try simp only [Act.put, List.setIfInBounds_toArray, List.set_cons_zero, List.set_cons_succ]
  refine wpAnyH_takeL 46 (.string T) rfl (by decide +kernel) (by decide +kernel) (by decide +kernel) (fun c a w h => hP c a _ _ w h) rfl ?_ trivial ?_
  · intro w hSw
    go_simp
  try simp only [Act.put, List.setIfInBounds_toArray, List.set_cons_zero, List.set_cons_succ]
  refine wpAnyH_takeL 47 (.int .i64 (k : Int)) rfl (by decide +kernel) (by decide +kernel) (by decide +kernel) (fun c a w h => hP c a _ _ w h) rfl ?_ trivial ?_
  · intro w hSw
    go_simp
  try simp only [Act.put, List.setIfInBounds_toArray, List.set_cons_zero, List.set_cons_succ]
  refine wpAnyH_takeL 48 (.string (T.extract 0 k)) rfl (by decide +kernel) (by decide +kernel) (by decide +kernel) (fun c a w h => hP c a _ _ w h) rfl ?_ trivial ?_
  · intro w hSw
    go_simp
  try simp only [Act.put, List.setIfInBounds_toArray, List.set_cons_zero, List.set_cons_succ]
  refine wpAnyH_takeL 49 (.string ((T.extract 0 k) ++ ⟨#[58]⟩)) rfl (by decide +kernel) (by decide +kernel) (by decide +kernel) (fun c a w h => hP c a _ _ w h) rfl ?_ trivial ?_
  · intro w hSw
    go_simp
  try simp only [Act.put, List.setIfInBounds_toArray, List.set_cons_zero, List.set_cons_succ]
  refine wpAnyH_takeL 50 (.string T) rfl (by decide +kernel) (by decide +kernel) (by decide +kernel) (fun c a w h => hP c a _ _ w h) rfl ?_ trivial ?_
  · intro w hSw
    go_simp
  try simp only [Act.put, List.setIfInBounds_toArray, List.set_cons_zero, List.set_cons_succ]
  refine wpAnyH_takeL 51 (.int .i64 (i : Int)) rfl (by decide +kernel) (by decide +kernel) (by decide +kernel) (fun c a w h => hP c a _ _ w h) rfl ?_ trivial ?_
  · intro w hSw
    go_simp
  try simp only [Act.put, List.setIfInBounds_toArray, List.set_cons_zero, List.set_cons_succ]
  refine wpAnyH_takeL 52 (.string (T.extract i 13)) rfl (by decide +kernel) (by decide +kernel) (by decide +kernel) (fun c a w h => hP c a _ _ w h) rfl ?_ trivial ?_
  · intro w hSw
    go_simp
  try simp only [Act.put, List.setIfInBounds_toArray, List.set_cons_zero, List.set_cons_succ]
  refine wpAnyH_takeL 53 (.string (((T.extract 0 k) ++ ⟨#[58]⟩) ++ (T.extract i 13))) rfl (by decide +kernel) (by decide +kernel) (by decide +kernel) (fun c a w h => hP c a _ _ w h) rfl ?_ trivial ?_
  · intro w hSw
    go_simp
  try simp only [Act.put, List.setIfInBounds_toArray, List.set_cons_zero, List.set_cons_succ]
  refine wpAnyH_takeL 54 (.string T) rfl (by decide +kernel) (by decide +kernel) (by decide +kernel) (fun c a w h => hP c a _ _ w h) rfl ?_ trivial ?_
  · intro w hSw
    go_simp
  try simp only [Act.put, List.setIfInBounds_toArray, List.set_cons_zero, List.set_cons_succ]
  refine wpAnyH_takeL 55 (.int .i64 (k : Int)) rfl (by decide +kernel) (by decide +kernel) (by decide +kernel) (fun c a w h => hP c a _ _ w h) rfl ?_ trivial ?_
  · intro w hSw
    go_simp
  try simp only [Act.put, List.setIfInBounds_toArray, List.set_cons_zero, List.set_cons_succ]
  refine wpAnyH_takeL 56 (.string (T.extract 0 k)) rfl (by decide +kernel) (by decide +kernel) (by decide +kernel) (fun c a w h => hP c a _ _ w h) rfl ?_ trivial ?_
  · intro w hSw
    go_simp
  try simp only [Act.put, List.setIfInBounds_toArray, List.set_cons_zero, List.set_cons_succ]
  refine wpAnyH_takeL 57 (.string ((T.extract 0 k) ++ ⟨#[96]⟩)) rfl (by decide +kernel) (by decide +kernel) (by decide +kernel) (fun c a w h => hP c a _ _ w h) rfl ?_ trivial ?_
  · intro w hSw
    go_simp
  try simp only [Act.put, List.setIfInBounds_toArray, List.set_cons_zero, List.set_cons_succ]
  refine wpAnyH_takeL 58 (.string T) rfl (by decide +kernel) (by decide +kernel) (by decide +kernel) (fun c a w h => hP c a _ _ w h) rfl ?_ trivial ?_
  · intro w hSw
    go_simp
  try simp only [Act.put, List.setIfInBounds_toArray, List.set_cons_zero, List.set_cons_succ]
  refine wpAnyH_takeL 59 (.int .i64 (i : Int)) rfl (by decide +kernel) (by decide +kernel) (by decide +kernel) (fun c a w h => hP c a _ _ w h) rfl ?_ trivial ?_
  · intro w hSw
    go_simp
  try simp only [Act.put, List.setIfInBounds_toArray, List.set_cons_zero, List.set_cons_succ]
  refine wpAnyH_takeL 60 (.string (T.extract i 13)) rfl (by decide +kernel) (by decide +kernel) (by decide +kernel) (fun c a w h => hP c a _ _ w h) rfl ?_ trivial ?_
  · intro w hSw
    go_simp
  try simp only [Act.put, List.setIfInBounds_toArray, List.set_cons_zero, List.set_cons_succ]
  refine wpAnyH_takeL 61 (.string (((T.extract 0 k) ++ ⟨#[96]⟩) ++ (T.extract i 13))) rfl (by decide +kernel) (by decide +kernel) (by decide +kernel) (fun c a w h => hP c a _ _ w h) rfl ?_ trivial ?_
  · intro w hSw
    go_simp
  try simp only [Act.put, List.setIfInBounds_toArray, List.set_cons_zero, List.set_cons_succ]
  refine wpAnyH_takeL 62 (.string T) rfl (by decide +kernel) (by decide +kernel) (by decide +kernel) (fun c a w h => hP c a _ _ w h) rfl ?_ trivial ?_
  · intro w hSw
    go_simp
  try simp only [Act.put, List.setIfInBounds_toArray, List.set_cons_zero, List.set_cons_succ]
  refine wpAnyH_takeL 63 (.int .i64 (k : Int)) rfl (by decide +kernel) (by decide +kernel) (by decide +kernel) (fun c a w h => hP c a _ _ w h) rfl ?_ trivial ?_
  · intro w hSw
    go_simp
  try simp only [Act.put, List.setIfInBounds_toArray, List.set_cons_zero, List.set_cons_succ]
  refine wpAnyH_takeL 64 (.string (T.extract 0 k)) rfl (by decide +kernel) (by decide +kernel) (by decide +kernel) (fun c a w h => hP c a _ _ w h) rfl ?_ trivial ?_
  · intro w hSw
    go_simp
  try simp only [Act.put, List.setIfInBounds_toArray, List.set_cons_zero, List.set_cons_succ]
  refine wpAnyH_takeL 65 (.string ((T.extract 0 k) ++ ⟨#[0]⟩)) rfl (by decide +kernel) (by decide +kernel) (by decide +kernel) (fun c a w h => hP c a _ _ w h) rfl ?_ trivial ?_
  · intro w hSw
    go_simp
  try simp only [Act.put, List.setIfInBounds_toArray, List.set_cons_zero, List.set_cons_succ]
  refine wpAnyH_takeL 66 (.string T) rfl (by decide +kernel) (by decide +kernel) (by decide +kernel) (fun c a w h => hP c a _ _ w h) rfl ?_ trivial ?_
  · intro w hSw
    go_simp
  try simp only [Act.put, List.setIfInBounds_toArray, List.set_cons_zero, List.set_cons_succ]
  refine wpAnyH_takeL 67 (.int .i64 (i : Int)) rfl (by decide +kernel) (by decide +kernel) (by decide +kernel) (fun c a w h => hP c a _ _ w h) rfl ?_ trivial ?_
  · intro w hSw
    go_simp
  try simp only [Act.put, List.setIfInBounds_toArray, List.set_cons_zero, List.set_cons_succ]
  refine wpAnyH_takeL 68 (.string (T.extract i 13)) rfl (by decide +kernel) (by decide +kernel) (by decide +kernel) (fun c a w h => hP c a _ _ w h) rfl ?_ trivial ?_
  · intro w hSw
    go_simp
  try simp only [Act.put, List.setIfInBounds_toArray, List.set_cons_zero, List.set_cons_succ]
  refine wpAnyH_takeL 69 (.string (((T.extract 0 k) ++ ⟨#[0]⟩) ++ (T.extract i 13))) rfl (by decide +kernel) (by decide +kernel) (by decide +kernel) (fun c a w h => hP c a _ _ w h) rfl ?_ trivial ?_
  · intro w hSw
    go_simp
  try simp only [Act.put, List.setIfInBounds_toArray, List.set_cons_zero, List.set_cons_succ]
  refine wpAnyH_takeL 72 (.int .i64 0) rfl (by decide +kernel) (by decide +kernel) (by decide +kernel) (fun c a w h => hP c a _ _ w h) rfl ?_ trivial ?_
  · intro w hSw
    go_simp
  try simp only [Act.put, List.setIfInBounds_toArray, List.set_cons_zero, List.set_cons_succ]
  clear n1 n2 n3 n4
  refine wpAnyH_ready (rs := [70]) (by decide +kernel) (by simp) ?_
  refine allReadyH_consL rfl (fun K hK => ?_) AllReadyH.nil
  go_simp
  obtain ⟨W1, hW⟩ : ∃ x, x = (wr.alloc (.cells #[.string ((T.extract 0 i)), .string ((T.extract i 13)), .string ((((T.extract 0 i) ++ ⟨#[48]⟩) ++ (T.extract i 13))), .string ((((T.extract 0 k) ++ ⟨#[119]⟩) ++ (T.extract i 13))), .string ((((T.extract 0 k) ++ ⟨#[86]⟩) ++ (T.extract i 13))), .string ((((T.extract 0 k) ++ ⟨#[103]⟩) ++ (T.extract i 13))), .string ((((T.extract 0 k) ++ ⟨#[47]⟩) ++ (T.extract i 13))), .string ((((T.extract 0 k) ++ ⟨#[58]⟩) ++ (T.extract i 13))), .string ((((T.extract 0 k) ++ ⟨#[96]⟩) ++ (T.extract i 13))), .string ((((T.extract 0 k) ++ ⟨#[0]⟩) ++ (T.extract i 13)))] 9)).drew := ⟨_, rfl⟩
  have hB : Below wr.heap.size wr W1 := by rw [hW]; exact ((Below.refl _ _).alloc (Nat.le_refl _) _).drew
  have hG : W1.heap[wr.heap.size]? = some (.cells #[.string ((T.extract 0 i)), .string ((T.extract i 13)), .string ((((T.extract 0 i) ++ ⟨#[48]⟩) ++ (T.extract i 13))), .string ((((T.extract 0 k) ++ ⟨#[119]⟩) ++ (T.extract i 13))), .string ((((T.extract 0 k) ++ ⟨#[86]⟩) ++ (T.extract i 13))), .string ((((T.extract 0 k) ++ ⟨#[103]⟩) ++ (T.extract i 13))), .string ((((T.extract 0 k) ++ ⟨#[47]⟩) ++ (T.extract i 13))), .string ((((T.extract 0 k) ++ ⟨#[58]⟩) ++ (T.extract i 13))), .string ((((T.extract 0 k) ++ ⟨#[96]⟩) ++ (T.extract i 13))), .string ((((T.extract 0 k) ++ ⟨#[0]⟩) ++ (T.extract i 13)))] 9 (0, 0)) := by rw [hW]; exact World.alloc_heap_new _ _
  rw [← hW]
  refine hK.out _ _ trivial (fun _ => ?_)
  clear hK K hW
  try simp only [Act.put, List.setIfInBounds_toArray, List.set_cons_zero, List.set_cons_succ]
  refine wpAnyH_takeL 71 (.int .i64 10) rfl (by decide +kernel) (by decide +kernel) (by decide +kernel) (fun c a w h => hP c a _ _ w h) rfl ?_ trivial ?_
  · intro w hSw
    go_simp
  try simp only [Act.put, List.setIfInBounds_toArray, List.set_cons_zero, List.set_cons_succ]
  refine wpAnyH_done (by decide +kernel) ?_ _
  exact HQ.out _ _ _ _ _ _ _ _ _ _ _ _ (by simp only [ByteArray.size_append, ByteArray.size_extract, hT, one25]; omega) (by simp only [ByteArray.size_append, ByteArray.size_extract, hT, one25]; omega) (by simp only [ByteArray.size_append, ByteArray.size_extract, hT, one25]; omega) (by simp only [ByteArray.size_append, ByteArray.size_extract, hT, one25]; omega) (by simp only [ByteArray.size_append, ByteArray.size_extract, hT, one25]; omega) (by simp only [ByteArray.size_append, ByteArray.size_extract, hT, one25]; omega) (by simp only [ByteArray.size_append, ByteArray.size_extract, hT, one25]; omega) (by simp only [ByteArray.size_append, ByteArray.size_extract, hT, one25]; omega) (by simp only [ByteArray.size_append, ByteArray.size_extract, hT, one25]; omega) (by simp only [ByteArray.size_append, ByteArray.size_extract, hT, one25]; omega) hG hB
end Go.Proofs.Ytdgmbghbjpmiiaa
