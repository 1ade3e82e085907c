/- The law CapsActs: its walk. -/
import Derived.Test.YtinagiofolmhbaaT3
namespace Go.Proofs.Ytinagiofolmhbaa
open Go.RowKit
set_option linter.unusedVariables false
set_option linter.unusedSimpArgs false


theorem acts_law {w : World} {lv : Value} {ls : List Ac} {nxt : Int} (hl : SrcN aL w lv ls) (hk : ∀ a ∈ ls, -9223372036854775808 ≤ a.ser ∧ a.ser ≤ 9223372036854775807) :
    Calls Try.prog 8 #[.int .i64 nxt, lv] w fun e w' => e = .returned (.bool true) ∧ Below w.heap.size w w' := by
  have H := Hd.mk (acts_any (nxt := nxt) hl hk)
  clear hl hk
  go_enter Try.func8, Try.ntmps8
  go_wp2_with fail
  refine H.out.mono ?_
  rintro e w1 ⟨rfl, hB1⟩
  have HB := Hd.mk hB1
  clear hB1 H
  go_wp2_with fail
  refine (awake_any _).mono ?_
  rintro e w2 ⟨rfl, hB2⟩
  have HB2 := Hd.mk hB2
  clear hB2
  go_wp2_with fail
  go_ret
  exact ⟨rfl, HB.out.trans (HB2.out.mono HB.out.size)⟩
def jL : Lays (List Int) := ⟨5, fun z => [.int .u8 (z.getD 0 0), .int .i64 (z.getD 1 0), .int .i64 (z.getD 2 0), .int .i64 (z.getD 3 0), .int .u8 (z.getD 4 0)], fun _ => rfl, by
  intro x u hu
  simp at hu
  rcases hu with rfl | rfl | rfl | rfl | rfl <;> rfl⟩
theorem wf_i64b {n : Int} (h : (Lit.int .i64 n).wf = true) : -9223372036854775808 ≤ n ∧ n ≤ 9223372036854775807 := by
  simp [Lit.wf, IntKind.min, IntKind.max, IntKind.bits, IntKind.signed] at h
  omega
theorem act_row {w : World} {a : Option Addr} {len cap : Nat} (h : IsRowS [.u8, .i64, .i64, .i64, .u8] w a len cap) : ∃ ls : List Ac, ls.length = len ∧ SrcN aL w (.slice a len cap) ls ∧ ∀ x ∈ ls, -9223372036854775808 ≤ x.ser ∧ x.ser ≤ 9223372036854775807 := by
  obtain ⟨xs, hl, hs, hx⟩ := row_src jL [.u8, .i64, .i64, .i64, .u8] id rfl ⟨_, rfl⟩ (fun zs hz => by
    match zs, hz with
    | [a, b, c, d, e], _ => rfl) h
  refine ⟨xs.map (fun z => ⟨BitVec.ofInt 8 (z.getD 0 0), z.getD 1 0, z.getD 2 0, z.getD 3 0, BitVec.ofInt 8 (z.getD 4 0)⟩), by simpa using hl, SrcN.conv (L := jL) (K := aL) _ rfl (fun x hxm => ?_) hs, fun y hy => ?_⟩
  · obtain ⟨zs, hzx, hz, hw⟩ := hx x hxm
    simp only [id] at hzx
    rw [hzx]
    clear hzx
    match zs, hz, hw with
    | [p, q, r, s, t], _, hw =>
      have b0 := wf_u8 (hw 0 .u8 p rfl rfl)
      have b4 := wf_u8 (hw 4 .u8 t rfl rfl)
      show [h8 (BitVec.ofInt 8 p), .int .i64 q, .int .i64 r, .int .i64 s, h8 (BitVec.ofInt 8 t)] = [.int .u8 p, .int .i64 q, .int .i64 r, .int .i64 s, .int .u8 t]
      rw [← h8_int p b0.1 b0.2, ← h8_int t b4.1 b4.2]
  · obtain ⟨x, hxm, rfl⟩ := List.mem_map.1 hy
    obtain ⟨zs, hzx, hz, hw⟩ := hx x hxm
    simp only [id] at hzx
    rw [hzx]
    clear hzx
    match zs, hz, hw with
    | [p, q, r, s, t], _, hw => exact wf_i64b (hw 1 .i64 q rfl rfl)

end Go.Proofs.Ytinagiofolmhbaa
