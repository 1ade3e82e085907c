/- Walks of rng.New and the methods of streams. -/
import Derived.Test.YtpioobaapigjcaaA2
import Derived.Defers
import Derived.Deep.QuietTactic
import Derived.BigQuiet
namespace Go.Proofs.Ytpioobaapigjcaa
open Go.RowKit

set_option maxHeartbeats 1000000 in
theorem New_yes (seed : BitVec 64) (p : Int) (h0 : 0 ≤ p) (h1 : p ≤ 65536) (w : World) :
    Calls Try.prog 19 #[u seed, .int .i64 p] w fun e w' => ∃ w1, e = .returned (.tuple #[.pointer (some ⟨w1.heap.size, 0, none⟩), .int .i64 0]) ∧ Below w.heap.size w w1 ∧ w' = w1.alloc (.cells #[u (keyV seed p), .int .i64 0, .bool true] 62) := by
  go_enter Try.func19, Try.ntmps19
  go_wp2_with fail
  refine (Key_yes seed p h0 h1 _).mono ?_
  rintro e w1 ⟨rfl, hB⟩
  go_wp2_with fail
  go_ret2
  exact ⟨w1, rfl, hB, rfl⟩

set_option maxHeartbeats 1000000 in
theorem New_no (seed : BitVec 64) (p : Int) (h : p < 0 ∨ 65536 < p) (w : World) :
    Calls Try.prog 19 #[u seed, .int .i64 p] w fun e w' => e = .returned (.tuple #[.pointer none, .int .i64 2]) ∧ Below w.heap.size w w' := by
  have H := Hd.mk h
  clear h
  go_enter Try.func19, Try.ntmps19
  go_wp2_with fail
  refine (Key_no seed p H.out _).mono ?_
  rintro e w1 ⟨rfl, hB⟩
  go_wp2_with fail
  go_ret2
  exact ⟨rfl, hB⟩

set_option maxHeartbeats 1000000 in
theorem is_yes (b : Nat) (w : World) (h2 : w.cell? ⟨b, 2, none⟩ = some (.bool true)) :
    Calls Try.prog 37 #[.pointer (some ⟨b, 0, none⟩)] w fun e w' => e = .returned (.bool true) ∧ w = w' := by
  go_enter Try.func37, Try.ntmps37
  go_wp2_with fail
  go_ret
  exact ⟨rfl, rfl⟩

set_option maxHeartbeats 1000000 in
theorem Index_yes (b : Nat) (n : Int) (w : World) (h1 : w.cell? ⟨b, 1, none⟩ = some (.int .i64 n)) (h2 : w.cell? ⟨b, 2, none⟩ = some (.bool true)) :
    Calls Try.prog 26 #[.pointer (some ⟨b, 0, none⟩)] w fun e w' => e = .returned (.int .i64 n) ∧ w = w' := by
  go_enter Try.func26, Try.ntmps26
  go_wp2_with fail
  refine (is_yes b _ h2).mono ?_
  rintro e w' ⟨rfl, rfl⟩
  go_wp2_with fail
  go_ret
  exact ⟨rfl, rfl⟩

set_option maxHeartbeats 1000000 in
theorem Move_yes (b : Nat) (n i : Int) (w : World) (h0 : 0 ≤ i) (hi : i ≤ 281474976710657) (h1 : w.cell? ⟨b, 1, none⟩ = some (.int .i64 n)) (hf : w.frozen? ⟨b, 1, none⟩ = false) (h2 : w.cell? ⟨b, 2, none⟩ = some (.bool true)) :
    Calls Try.prog 25 #[.pointer (some ⟨b, 0, none⟩), .int .i64 i] w fun e w' => e = .returned (.int .i64 0) ∧ w' = w.setCell ⟨b, 1, none⟩ (.int .i64 i) := by
  go_enter Try.func25, Try.ntmps25
  go_wp2_with fail
  refine (is_yes b _ h2).mono ?_
  rintro e w' ⟨rfl, rfl⟩
  go_wp2_with fail
  go_ret
  exact ⟨rfl, rfl⟩

theorem at_anyq (key : BitVec 64) (i : Int) (h0 : 0 ≤ i) (h1 : i ≤ 281474976710656) (w : World) :
    Calls Try.prog 29 #[u key, .int .i64 i] w fun e w' => e = .returned (u (atV key i)) ∧ w' = w :=
  (at_any key i h0 h1 w).mono fun _ _ ⟨he, hw⟩ => ⟨he, hw.symm⟩

set_option maxHeartbeats 1000000 in
theorem next1_d (box b : Nat) (n : Int) (m : FrameMode) (w : World) (hn0 : 0 ≤ n) (hn : n ≤ 281474976710656) (hx : w.cell? ⟨box, 0, none⟩ = some (.pointer (some ⟨b, 0, none⟩)))
    (h1 : w.cell? ⟨b, 1, none⟩ = some (.int .i64 n)) (hf : w.frozen? ⟨b, 1, none⟩ = false) :
    CallsD Try.prog 38 #[.pointer (some ⟨box, 0, none⟩)] m w fun e u' w' => u' = m ∧ (e = .returned (.tuple #[]) ∧ w' = w.setCell ⟨b, 1, none⟩ (.int .i64 (n + 1))) := by
  go_enter_d Try.func38, Try.ntmps38
  go_wp2_with fail
  go_end0
  exact ⟨rfl, rfl⟩

set_option maxHeartbeats 1000000 in
theorem Next_full (b : Nat) (n : Int) (w : World) (hn : 281474976710656 < n) (h1 : w.cell? ⟨b, 1, none⟩ = some (.int .i64 n)) (h2 : w.cell? ⟨b, 2, none⟩ = some (.bool true)) :
    Calls Try.prog 22 #[.pointer (some ⟨b, 0, none⟩)] w fun e w' => e = .returned (.tuple #[.int .u64 0, .int .i64 4]) ∧ Below w.heap.size w w' := by
  have hb := World.block_lt_of_cell? w _ h2
  have hb : b < w.heap.size := hb
  go_enter_defers Try.func22, Try.ntmps22
  go_wp2_with fail
  refine (is_yes b _ ?_).mono ?_
  · rw [((Below.refl _ _).alloc (Nat.le_refl _) _).cell (p := ⟨b, 2, none⟩) hb]; exact h2
  rintro e w' ⟨rfl, rfl⟩
  go_wp2_with fail
  refine ⟨_, results_tmp2 rfl _ _ _, ?_⟩
  exact ⟨rfl, (Below.refl _ _).alloc (Nat.le_refl _) _⟩

set_option maxHeartbeats 1000000 in
theorem Next_yes (b : Nat) (key : BitVec 64) (n : Int) (w : World) (hn0 : 0 ≤ n) (hn : n ≤ 281474976710656) (h0 : w.cell? ⟨b, 0, none⟩ = some (u key)) (h1 : w.cell? ⟨b, 1, none⟩ = some (.int .i64 n)) (h2 : w.cell? ⟨b, 2, none⟩ = some (.bool true)) (hf : w.frozen? ⟨b, 1, none⟩ = false) :
    Calls Try.prog 22 #[.pointer (some ⟨b, 0, none⟩)] w fun e w' => e = .returned (.tuple #[u (atV key n), .int .i64 0]) ∧ ∃ o nq, w' = ((w.alloc o).drewN nq).setCell ⟨b, 1, none⟩ (.int .i64 (n + 1)) := by
  have hb := World.block_lt_of_cell? w _ h2
  have hb : b < w.heap.size := hb
  have hmf : ∀ (fn : Fn) (first cap : Array Value) (w : World), (Instr.makeFunc fn first cap).run Try.prog w = .ok (.func fn first cap) w := fun _ _ _ _ => rfl
  go_enter_defers Try.func22, Try.ntmps22
  go_wp2_with fail
  refine (is_yes b _ ?_).mono ?_
  · rw [((Below.refl _ _).alloc (Nat.le_refl _) _).cell (p := ⟨b, 2, none⟩) hb]; exact h2
  rintro e w' ⟨rfl, rfl⟩
  go_wp2_with fail
  go_quiet ((go_at_call 29; exact Calls.quiet_of_same (at_anyq _ n hn0 hn _)))
  go_wp2_with fail
  refine leaves_cons (f := 38) (args := #[.pointer (some ⟨w.heap.size, 0, none⟩)]) (by simp) (by simp [go_sem]) ?_
  refine (next1_d w.heap.size b n .returning _ hn0 hn ?_ ?_ ?_).mono ?_
  · simp
  · rw [(below_drewN ((Below.refl _ _).alloc (Nat.le_refl _) _) nq).cell (p := ⟨b, 1, none⟩) hb]; exact h1
  · rw [(below_drewN ((Below.refl _ _).alloc (Nat.le_refl _) _) nq).frozen (p := ⟨b, 1, none⟩) hb]; exact hf
  rintro e u' w'' ⟨rfl, rfl, rfl⟩
  exact ⟨_, results_tmp2 rfl _ _ _, rfl, _, _, rfl⟩

theorem grown_trans {w w1 w2 : World} {r : Option Nat} (h : w.grownBy w1 r) (k : w1.grownBy w2 r) : w.grownBy w2 r :=
  ⟨k.os.trans h.os, k.tape.trans h.tape, k.output.trans h.output, Nat.le_trans h.size k.size, fun i hi hn => (k.block i (Nat.lt_of_lt_of_le hi h.size) hn).trans (h.block i hi hn)⟩
theorem grown_below {w w1 : World} (h : Below w.heap.size w w1) (r : Option Nat) : w.grownBy w1 r := ⟨h.os, h.tape, h.output, h.size, fun k hk _ => h.block k hk⟩
theorem grown_set (w : World) (b i : Nat) (v : Value) : w.grownBy (w.setCell ⟨b, i, none⟩ v) (some b) :=
  ⟨rfl, rfl, rfl, by simp [World.setCell], fun k _ hn => Below.heap_setCell _ _ _ _ (fun e => hn (by rw [e]))⟩
theorem below_grown {B b : Nat} {w w1 : World} (h : w.grownBy w1 (some b)) (hb : B ≤ b) (hs : B ≤ w.heap.size) : Below B w w1 :=
  ⟨h.os, h.tape, h.output, h.size, fun k hk => h.block k (by omega) (fun e => by simp at e; omega)⟩

/-- Block b is a stream. -/
def St (w : World) (b : Nat) (key : BitVec 64) (n : Int) : Prop := w.heap[b]? = some (.cells #[u key, .int .i64 n, .bool true] 62 (0, 0))
theorem St.lt {w : World} {b : Nat} {key : BitVec 64} {n : Int} (h : St w b key n) : b < w.heap.size := (Array.getElem?_eq_some_iff.1 h).1
theorem St.below {B : Nat} {w w1 : World} {b : Nat} {key : BitVec 64} {n : Int} (h : St w b key n) (hB : Below B w w1) (hb : b < B) : St w1 b key n := (hB.block b hb).trans h
theorem St.grown {w w1 : World} {b c : Nat} {key : BitVec 64} {n : Int} (h : St w b key n) (hg : w.grownBy w1 (some c)) (hb : b ≠ c) : St w1 b key n := (hg.block b h.lt (by simpa using hb)).trans h
theorem St.set {w : World} {b : Nat} {key : BitVec 64} {n : Int} (h : St w b key n) (m : Int) : St (w.setCell ⟨b, 1, none⟩ (.int .i64 m)) b key m := cells_set h _
theorem St.made (w : World) (key : BitVec 64) (n : Int) : St (w.alloc (.cells #[u key, .int .i64 n, .bool true] 62)) w.heap.size key n := World.alloc_heap_new w _

theorem New_st (seed : BitVec 64) (p : Int) (h0 : 0 ≤ p) (h1 : p ≤ 65536) (w : World) :
    Calls Try.prog 19 #[u seed, .int .i64 p] w fun e w' => ∃ b, e = .returned (.tuple #[.pointer (some ⟨b, 0, none⟩), .int .i64 0]) ∧ w.heap.size ≤ b ∧ St w' b (keyV seed p) 0 ∧ Below w.heap.size w w' := by
  refine (New_yes seed p h0 h1 w).mono ?_
  rintro e w' ⟨w1, he, hB, rfl⟩
  exact ⟨_, he, hB.size, St.made _ _ _, hB.alloc hB.size _⟩

section
variable {w : World} {b : Nat} {key : BitVec 64} {n : Int}
theorem Index_st (h : St w b key n) : Calls Try.prog 26 #[.pointer (some ⟨b, 0, none⟩)] w fun e w' => e = .returned (.int .i64 n) ∧ w = w' :=
  Index_yes b n w (cells_cell h 1) (cells_cell h 2)
theorem Move_st (h : St w b key n) (i : Int) (h0 : 0 ≤ i) (hi : i ≤ 281474976710657) :
    Calls Try.prog 25 #[.pointer (some ⟨b, 0, none⟩), .int .i64 i] w fun e w' => e = .returned (.int .i64 0) ∧ St w' b key i ∧ w.grownBy w' (some b) := by
  refine (Move_yes b n i w h0 hi (cells_cell h 1) (cells_free h 1) (cells_cell h 2)).mono ?_
  rintro e w' ⟨he, rfl⟩
  exact ⟨he, h.set i, grown_set _ _ _ _⟩
theorem Next_st (h : St w b key n) (h0 : 0 ≤ n) (hn : n ≤ 281474976710656) :
    Calls Try.prog 22 #[.pointer (some ⟨b, 0, none⟩)] w fun e w' => e = .returned (.tuple #[u (atV key n), .int .i64 0]) ∧ St w' b key (n + 1) ∧ w.grownBy w' (some b) := by
  refine (Next_yes b key n w h0 hn (cells_cell h 0) (cells_cell h 1) (cells_cell h 2) (cells_free h 1)).mono ?_
  rintro e w' ⟨he, o, nq, rfl⟩
  have hB : Below w.heap.size w ((w.alloc o).drewN nq) := below_drewN ((Below.refl _ _).alloc (Nat.le_refl _) _) nq
  exact ⟨he, (h.below hB h.lt).set _, grown_trans (grown_below hB _) (grown_set _ _ _ _)⟩
theorem Next_st_full (h : St w b key n) (hn : 281474976710656 < n) :
    Calls Try.prog 22 #[.pointer (some ⟨b, 0, none⟩)] w fun e w' => e = .returned (.tuple #[.int .u64 0, .int .i64 4]) ∧ Below w.heap.size w w' :=
  Next_full b n w hn (cells_cell h 1) (cells_cell h 2)

set_option maxHeartbeats 1000000 in
theorem DrawS_yes (h : St w b key n) (h0 : 0 ≤ n) (hn : n ≤ 281474976710656) (m : Int) (hm : 1 ≤ m) (hm2 : m ≤ 9223372036854775807) :
    Calls Try.prog 23 #[.pointer (some ⟨b, 0, none⟩), .int .i64 m] w fun e w' => e = .returned (.tuple #[.int .i64 (blw (atV key n).toNat m.toNat), .int .i64 0]) ∧ St w' b key (n + 1) ∧ w.grownBy w' (some b) := by
  have H := Hd.mk h
  have hm' : ¬ m < 1 := by omega
  clear h
  go_enter Try.func23, Try.ntmps23
  go_wp2_with fail
  refine (is_yes b _ (cells_cell H.out 2)).mono ?_
  rintro e w' ⟨rfl, rfl⟩
  go_wp2_with fail
  refine (Next_st H.out h0 hn).mono ?_
  rintro e w' ⟨rfl, hS, hg⟩
  have HS := Hd.mk hS
  have HG := Hd.mk hg
  clear hS hg
  go_wp2_with fail
  refine (Below_yes _ m hm hm2 _).mono ?_
  rintro e w2 ⟨rfl, rfl⟩
  go_wp2_with fail
  go_ret2
  exact ⟨rfl, HS.out, HG.out⟩

set_option maxHeartbeats 1000000 in
theorem DrawS_no (h : St w b key n) (m : Int) (hm : m < 1) :
    Calls Try.prog 23 #[.pointer (some ⟨b, 0, none⟩), .int .i64 m] w fun e w' => e = .returned (.tuple #[.int .i64 0, .int .i64 60]) ∧ w = w' := by
  have H := Hd.mk h
  clear h
  go_enter Try.func23, Try.ntmps23
  go_wp2_with fail
  refine (is_yes b _ (cells_cell H.out 2)).mono ?_
  rintro e w' ⟨rfl, rfl⟩
  go_wp2_with fail
  go_ret2
  exact ⟨rfl, rfl⟩

set_option maxHeartbeats 1000000 in
theorem DrawS_full (h : St w b key n) (hn : 281474976710656 < n) (m : Int) (hm : 1 ≤ m) :
    Calls Try.prog 23 #[.pointer (some ⟨b, 0, none⟩), .int .i64 m] w fun e w' => e = .returned (.tuple #[.int .i64 0, .int .i64 4]) ∧ Below w.heap.size w w' := by
  have H := Hd.mk h
  have hm' : ¬ m < 1 := by omega
  clear h
  go_enter Try.func23, Try.ntmps23
  go_wp2_with fail
  refine (is_yes b _ (cells_cell H.out 2)).mono ?_
  rintro e w' ⟨rfl, rfl⟩
  go_wp2_with fail
  refine (Next_st_full H.out hn).mono ?_
  rintro e w' ⟨rfl, hB⟩
  go_wp2_with fail
  go_ret2
  exact ⟨rfl, hB⟩
end

theorem nv_int (i : Int) (h0 : 0 ≤ i) (h1 : i ≤ 281474976710656) : (BitVec.ofInt 64 i).toNat = i.toNat := by rw [BitVec.toNat_ofInt]; omega
theorem find_at (seed : BitVec 64) (p i : Int) : findV seed p (atV (keyV seed p) i) = BitVec.ofInt 64 i := by
  unfold findV atV
  rw [unmix_mix]
  generalize keyV seed p = k
  have e1 : k + BitVec.ofInt 64 ((i + 1) * 11400714819323198485) - k = BitVec.ofInt 64 ((i + 1) * 11400714819323198485) := by grind
  rw [e1, BitVec.ofInt_mul, BitVec.mul_assoc]
  have e2 : BitVec.ofInt 64 11400714819323198485 * byV 5 = 1#64 := byV5
  rw [e2, BitVec.mul_one, BitVec.ofInt_add]
  have e3 : BitVec.ofInt 64 1 = 1#64 := by decide
  rw [e3]; grind
theorem findI_at (seed : BitVec 64) (p i : Int) (h0 : 0 ≤ i) (h1 : i ≤ 281474976710656) : findI (findV seed p (atV (keyV seed p) i)) = i := by
  rw [find_at, findI, nv, nv_int i h0 h1, if_neg (by omega)]; omega
theorem findE_at (seed : BitVec 64) (p i : Int) (h0 : 0 ≤ i) (h1 : i ≤ 281474976710656) : findE (findV seed p (atV (keyV seed p) i)) = 0 := by
  rw [find_at, findE, nv_int i h0 h1, if_neg (by omega)]
theorem Find_at (seed : BitVec 64) (p i : Int) (h0 : 0 ≤ p) (h1 : p ≤ 65536) (h2 : 0 ≤ i) (h3 : i ≤ 281474976710656) (w : World) :
    Calls Try.prog 13 #[u seed, .int .i64 p, u (atV (keyV seed p) i)] w fun e w' => e = .returned (.tuple #[.int .i64 i, .int .i64 0]) ∧ Below w.heap.size w w' := by
  have := Find_yes seed p (atV (keyV seed p) i) h0 h1 w
  rwa [findI_at seed p i h2 h3, findE_at seed p i h2 h3] at this
end Go.Proofs.Ytpioobaapigjcaa
