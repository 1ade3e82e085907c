/- Walks of the reference: Text, Read, Join. -/
import Derived.Test.YtdgmbghbjpmiiaaR2
import Derived.Test.YtdgmbghbjpmiiaaM2
namespace Go.Proofs.Ytdgmbghbjpmiiaa
open Go.RowKit

theorem conv_bytes_at (w : World) (b cap : Nat) (l : List Nat) (n : Nat) (hn : l.length = n) (h : ∀ j (hj : j < l.length), w.cell? ⟨b, j, none⟩ = some (.int .u8 (l[j] : Int))) :
    (convert 50 9 (.slice (some ⟨b, 0, none⟩) n cap)).run Try.prog w = .ok (.string ⟨(l.map UInt8.ofNat).toArray⟩) w := by
  subst hn; exact conv_bytes w b cap l h

theorem tarr_digs (x : BitVec 64) (w : World) (b : Nat) (e : TypeId) (h : w.heap[b]? = some (.cells (tarr x 13) e (0, 0))) :
    ∀ j (hj : j < (digs x).length), w.cell? ⟨b, j, none⟩ = some (.int .u8 ((digs x)[j] : Int)) := by
  intro j hj
  have hj : j < 13 := hj
  rw [cells_cell h, tarr_get x 13 j hj]
  have : j = 0 ∨ j = 1 ∨ j = 2 ∨ j = 3 ∨ j = 4 ∨ j = 5 ∨ j = 6 ∨ j = 7 ∨ j = 8 ∨ j = 9 ∨ j = 10 ∨ j = 11 ∨ j = 12 := by omega
  rcases this with rfl | rfl | rfl | rfl | rfl | rfl | rfl | rfl | rfl | rfl | rfl | rfl | rfl <;> simp [tcell, digs]

theorem div32 (x : BitVec 64) (k : Nat) : x >>> (5 * k) / 32#64 = x >>> (5 * (k + 1)) := by
  apply BitVec.eq_of_toNat_eq
  rw [show 5 * (k + 1) = 5 * k + 5 from rfl, BitVec.shiftRight_add, BitVec.toNat_udiv, shr_nat _ 5]
  rfl

set_option maxHeartbeats 1000000 in
theorem refText_any (x : BitVec 64) (w : World) :
    Calls Try.prog 28 #[u x] w fun e w' => e = .returned (.string (textV x)) ∧ Below w.heap.size w w' := by
  have hmk : ∀ w, (Instr.makeSlice 50 (.int .i64 13) (.int .i64 13)).run Try.prog w = .ok (.slice (some ⟨w.heap.size, 0, none⟩) 13 13) (w.alloc (.cells #[.int .u8 0, .int .u8 0, .int .u8 0, .int .u8 0, .int .u8 0, .int .u8 0, .int .u8 0, .int .u8 0, .int .u8 0, .int .u8 0, .int .u8 0, .int .u8 0, .int .u8 0] 5)) := fun _ => by kernel_rfl
  go_enter Try.func28, Try.ntmps28
  go_wp2_with fail
  go_loopw [0, 4] (fun a i W => ∃ k : Nat, k ≤ 13 ∧ a = u (x >>> (5 * k)) ∧ i = .int .i64 (12 - (k : Int)) ∧ BlockIs W w.heap.size (.cells (tarr x k) 5 (0, 0)) ∧ Below w.heap.size w W) (fun _ i _ => (intOf i + 1).toNat)
  case atStart => exact ⟨0, by omega, by simp, rfl, by rw [tarr_zero]; exact World.alloc_heap_new _ _, (Below.refl _ _).alloc (Nat.le_refl _) _⟩
  case round =>
    obtain ⟨k, hk, rfl, rfl, hb, hB⟩ := hrel
    by_cases hlt : k < 13
    · have hc := (cells_cell hb (12 - k)).trans (tarr_get x k (12 - k) (by omega))
      have hf := cells_free hb (12 - k)
      obtain ⟨d, hd⟩ : ∃ d : Nat, d = (x >>> (5 * k)).toNat % 32 := ⟨_, rfl⟩
      have hd32 : d < 32 := by omega
      have hcv : IntKind.u8.wrap (nv (x >>> (5 * k) % 32#64)) = (d : Int) := by
        rw [nv, BitVec.toNat_umod]
        show IntKind.u8.wrap (((x >>> (5 * k)).toNat % 32 : Nat) : Int) = _
        rw [← hd, IntKind.wrap_u8']; omega
      have hdc : dch (x >>> (5 * k)) = if d < 10 then 48 + d else 87 + d := by rw [dch, ← hd]
      have HD := Hd.mk hdc
      clear hd hdc
      have hset := tarr_step x k hlt
      have HSET := Hd.mk hset
      clear hset
      by_cases h10 : d < 10
      · go_wp2_with fail
        go_roundw
        case rel =>
          refine ⟨k + 1, by omega, by rw [div32], by go_num, ?_, hB.setCell (by simp) _⟩
          have := cells_set (o := 12 - k) hb (.int .u8 (48 + (d : Int)))
          have e := HSET.out
          rw [HD.out, if_pos h10] at e
          rw [← e]; exact this
        case measure => simp [intOf]; omega
      · go_wp2_with fail
        go_roundw
        case rel =>
          refine ⟨k + 1, by omega, by rw [div32], by go_num, ?_, hB.setCell (by simp) _⟩
          have := cells_set (o := 12 - k) hb (.int .u8 (87 + (d : Int)))
          have e := HSET.out
          rw [HD.out, if_neg h10] at e
          rw [← e]; exact this
        case measure => simp [intOf]; omega
    · obtain rfl : k = 13 := by omega
      have hcv : (convert 50 9 (.slice (some ⟨w.heap.size, 0, none⟩) 13 13)).run Try.prog wr = .ok (.string (textV x)) wr :=
        conv_bytes wr w.heap.size 13 (digs x) (tarr_digs x wr _ _ hb)
      go_wp2_with fail
      go_ret
      exact ⟨rfl, hB⟩
end Go.Proofs.Ytdgmbghbjpmiiaa
