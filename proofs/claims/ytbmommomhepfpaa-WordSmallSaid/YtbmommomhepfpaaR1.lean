/- Walks of the reference on lists of bits: Bits, Word, not, sum, down. -/
import Derived.Test.YtbmommomhepfpaaPB
import Derived.Test.YtbmommomhepfpaaP4
import Derived.Test.YtbmommomhepfpaaApp
import Derived.LoopTactic
import Derived.Outline
import Derived.Deep.QuietTactic
import Derived.BigQuiet
namespace Go.Proofs.Ytbmommomhepfpaa
open Go.RowKit
set_option linter.unusedVariables false

/-- An int as a value. -/
@[reducible] def ei (n : Int) : Value := .int .i64 n
theorem ei_one (n : Int) : (ei n).oneCell' = true := rfl
theorem info3 : ∃ i, Try.prog.info? 3 = some i ∧ i.zero = some (.int .i64 0) ∧ i.size = 1 ∧ i.bytes = 8 :=
  ⟨_, rfl, by kernel_rfl, by kernel_rfl, by kernel_rfl⟩

/-- v reads as the bits of x. -/
def Bs (w : World) (v : Value) (x : BitVec 64) : Prop := ∃ b off c, v = .slice (some ⟨b, off, none⟩) 64 c ∧ 64 ≤ c ∧ c ≤ maxLen ∧ b < w.heap.size ∧ ∀ i, i < 64 → w.cell? ⟨b, off + i, none⟩ = some (.int .i64 (bi x i))
theorem Bs.below {w w1 : World} {v : Value} {x : BitVec 64} (h : Bs w v x) (hB : Below w.heap.size w w1) : Bs w1 v x := by
  obtain ⟨b, off, c, hv, h1, h2, hb, hc⟩ := h
  exact ⟨b, off, c, hv, h1, h2, Nat.lt_of_lt_of_le hb hB.size, fun i hi => by rw [hB.cell (p := ⟨b, off + i, none⟩) hb]; exact hc i hi⟩
theorem Bs.of {w : World} {base : Nat} {v : Value} {x : BitVec 64} (h : OwnE ei w base 3 v (bl x 64)) : Bs w v x := by
  rcases h.cases with ⟨_, hx⟩ | ⟨g, cap, hv, _, hg, hc, hm, hcell, _⟩
  · have := congrArg List.length hx; rw [bl_len] at this; simp at this
  · rw [bl_len] at hv hc
    refine ⟨g, 0, cap, hv, hc, hm, hg, fun i hi => ?_⟩
    rw [Nat.zero_add, hcell i (by rw [bl_len]; exact hi), bl_get]

/-- v lies in a block from base on. -/
def Fr (base : Nat) (v : Value) : Prop := ∃ b off c, v = .slice (some ⟨b, off, none⟩) 64 c ∧ base ≤ b
theorem Fr.of {w : World} {base : Nat} {v : Value} {x : BitVec 64} (h : OwnE ei w base 3 v (bl x 64)) : Fr base v := by
  rcases h.cases with ⟨_, hx⟩ | ⟨g, cap, hv, hg, _⟩
  · have := congrArg List.length hx; rw [bl_len] at this; simp at this
  · rw [bl_len] at hv
    exact ⟨g, 0, cap, hv, hg⟩

/-- append(v, z) where v is the call's own. -/
theorem app1 {W0 w : World} {base : Nat} {v : Value} {xs : List Int} (z : Int) (h : OwnE ei w base 3 v xs) (hB : Below base W0 w) (hb : base ≤ w.heap.size) (hl : xs.length ≤ 1000) :
    ∃ v' w', (Builtin.append_ #[65, 65] 65 #[v, .slice (some ⟨w.heap.size, 0, none⟩) 1 1]).run Try.prog (w.alloc (.cells #[.int .i64 z] 3)) = .ok v' w' ∧ OwnE ei w' base 3 v' (xs ++ [z]) ∧ Below base W0 w' := by
  obtain ⟨i0, hi, hz0, hz1, hz2⟩ := info3
  have hs : SrcE ei (w.alloc (.cells #[.int .i64 z] 3)) (.slice (some ⟨w.heap.size, 0, none⟩) 1 1) [z] :=
    .inr ⟨⟨w.heap.size, 0, none⟩, 1, rfl, by simp, by simp [maxLen], fun j hj => by
      obtain rfl : j = 0 := by simpa using hj
      rw [plain_add, Nat.zero_add, cells_cell (World.alloc_heap_new w _) 0]; rfl⟩
  have ho := h.alloc (.cells #[.int .i64 z] 3)
  have hB1 := hB.alloc hb (.cells #[.int .i64 z] 3)
  obtain ⟨v', w', hr, ho', hg⟩ := ho.append (P := Try.prog) 65 65 i0 (.int .i64 0) 8 Try.underlying65 hi hz0 hz1 hz2 rfl ei_one (by simp; omega) _ [z] hs (by simp [maxLen]; omega) (by simp; omega)
  exact ⟨v', w', hr, ho', ho.grown hB1 (by simp; omega) hg⟩

set_option maxHeartbeats 1000000 in
theorem bits_any (x : BitVec 64) (w : World) : Calls Try.prog 43 #[s x] w fun e w' => ∃ v, e = .returned v ∧ Bs w' v x ∧ Below w.heap.size w w' := by
  go_enter Try.func43, Try.ntmps43
  go_wp2_with fail
  go_loopw [0, 3, 4] (fun a v i W => ∃ k : Nat, k ≤ 64 ∧ a = s (x.sshiftRight k) ∧ i = .int .i64 k ∧ OwnE ei W w.heap.size 3 v (bl x k) ∧ Below w.heap.size w W) (fun _ _ i _ => 64 - (intOf i).toNat)
  case atStart => exact ⟨0, by omega, by simp, rfl, OwnE.nil _ _ _ _, Below.refl _ _⟩
  case round =>
    obtain ⟨k, hk, rfl, rfl, ho, hB⟩ := hrel
    by_cases hlt : k < 64
    · obtain ⟨y, hy⟩ : ∃ y, x.sshiftRight k = y := ⟨_, rfl⟩
      have hodd := odd_bit0 y
      have hup := half_up y
      have hbit := ssr_bit x k hlt
      have hsucc := ssr_succ x k
      rw [hy] at hbit hsucc ⊢
      obtain ⟨v', w', hr, ho', hB'⟩ := app1 (bi x k) ho hB hB.size (by rw [bl_len]; omega)
      rw [← bl_succ] at ho'
      have HO := Hd.mk ho'
      clear ho ho' hy
      cases hx : x.getLsbD k
      · have hb0 : bi x k = 0 := by unfold bi; rw [hx]; rfl
        rw [hbit, hx] at hodd hup
        have HS : Hd (y.sdiv 2#64 = x.sshiftRight (k + 1)) := ⟨by rw [← hsucc]; exact hup.2 rfl⟩
        rw [hb0] at hr
        clear hup hbit hsucc hx hb0
        go_wp2_with (at_builtin; refine wpList_append_run rfl _ _ _ rfl rfl rfl hr ?_; clear hr)
        go_roundw
        case rel => exact ⟨k + 1, by omega, by rw [HS.out], by go_num, HO.out, hB'⟩
        case measure => simp [intOf]; omega
      · have hb0 : bi x k = 1 := by unfold bi; rw [hx]; rfl
        rw [hbit, hx] at hodd hup
        have HS : Hd ((y - 1#64).sdiv 2#64 = x.sshiftRight (k + 1)) := ⟨by rw [← hsucc]; exact hup.1 rfl⟩
        rw [hb0] at hr
        clear hup hbit hsucc hx hb0
        go_wp2_with (at_builtin; refine wpList_append_run rfl _ _ _ rfl rfl rfl hr ?_; clear hr)
        go_roundw
        case rel => exact ⟨k + 1, by omega, by rw [← HS.out], by go_num, HO.out, hB'⟩
        case measure => simp [intOf]; omega
    · obtain rfl : k = 64 := by omega
      go_wp2_with fail
      go_ret
      exact ⟨_, rfl, Bs.of ho, hB⟩

theorem pow_val (k : Nat) (hk : k < 63) : ∃ P : Int, wrap64 (2 ^ k) = P ∧ -9223372036854775808 ≤ P ∧ P ≤ 9223372036854775807 ∧ Hd (BitVec.ofInt 64 P = 1#64 <<< k) := by
  have h1 : (2 : Nat) ^ k < 2 ^ 63 := Nat.pow_lt_pow_right (by decide) hk
  have e : ((2 : Int) ^ k) = ((2 ^ k : Nat) : Int) := by simp
  have h3 : (1#64 <<< k).toNat = 2 ^ k := by
    rw [BitVec.toNat_shiftLeft, Nat.shiftLeft_eq, show (1#64).toNat = 1 from rfl, Nat.one_mul, Nat.mod_eq_of_lt (by omega)]
  rw [e]
  generalize 2 ^ k = Q at h1 h3
  refine ⟨(Q : Int), ?_, by omega, by omega, ⟨?_⟩⟩
  · unfold wrap64; omega
  · apply BitVec.eq_of_toNat_eq
    rw [BitVec.toNat_ofInt, h3]; omega

set_option maxHeartbeats 1000000 in
theorem word_any (v : Value) (x : BitVec 64) (w : World) (hv : Bs w v x) : Calls Try.prog 42 #[v] w fun e w' => e = .returned (s x) ∧ w = w' := by
  obtain ⟨b, off, c, rfl, hc, _, _, hcell⟩ := hv
  have HC := Hd.mk hcell
  clear hcell
  go_enter Try.func42, Try.ntmps42
  go_wp2_with fail
  go_loop [3, 4] (fun a i => ∃ (k : Nat) (y : BitVec 64), k ≤ 63 ∧ a = s y ∧ i = .int .i64 k ∧ Hd (y.toNat = x.toNat % 2 ^ k)) (fun _ i => 63 - (intOf i).toNat)
  case atStart => exact ⟨0, 0#64, by omega, rfl, rfl, ⟨by simp [Nat.mod_one]⟩⟩
  case round =>
    obtain ⟨k, y, hk, rfl, rfl, HH⟩ := hrel
    have hck := HC.out k (by omega)
    by_cases hlt : k < 63
    · have hst := add_bit x y k (by omega) HH.out
      rcases bi_01 x k with hb | hb
      · rw [hb] at hck
        have HS := Hd.mk (hst.2 hb)
        clear hst hb
        go_wp2_with fail
        go_round
        case rel => exact ⟨k + 1, y, by omega, rfl, by go_num, HS⟩
        case measure => simp [intOf]; omega
      · rw [hb] at hck
        obtain ⟨P, hP, P0, P1, HP⟩ := pow_val k (by omega)
        have HS : Hd ((y + BitVec.ofInt 64 P).toNat = x.toNat % 2 ^ (k + 1)) := ⟨by rw [HP.out]; exact hst.1 hb⟩
        clear hst hb
        go_wp2_with fail
        go_round
        case rel => exact ⟨k + 1, _, by omega, rfl, by go_num, HS⟩
        case measure => simp [intOf]; omega
    · obtain rfl : k = 63 := by omega
      have he := word_end x y HH.out
      rcases bi_01 x 63 with hb | hb
      · rw [hb] at hck
        have HE := Hd.mk (he.2 hb)
        clear he hb
        go_wp2_with fail
        go_ret
        exact ⟨ret_s HE.out, rfl⟩
      · rw [hb] at hck
        have HE := Hd.mk (he.1 hb)
        clear he hb
        go_wp2_with fail
        go_ret
        exact ⟨ret_s HE.out, rfl⟩

set_option maxHeartbeats 1000000 in
theorem not_any (v : Value) (x : BitVec 64) (w : World) (hv : Bs w v x) : Calls Try.prog 41 #[v] w fun e w' => ∃ v, e = .returned v ∧ Bs w' v (~~~x) ∧ Below w.heap.size w w' := by
  obtain ⟨b, off, c, rfl, hc, _, hbw, hcell⟩ := hv
  have HC := Hd.mk hcell
  clear hcell
  go_enter Try.func41, Try.ntmps41
  go_wp2_with fail
  go_loopw [3, 4] (fun v i W => ∃ k : Nat, k ≤ 64 ∧ i = .int .i64 k ∧ OwnE ei W w.heap.size 3 v (bl (~~~x) k) ∧ Below w.heap.size w W) (fun _ i _ => 64 - (intOf i).toNat)
  case atStart => exact ⟨0, by omega, rfl, OwnE.nil _ _ _ _, Below.refl _ _⟩
  case round =>
    obtain ⟨k, hk, rfl, ho, hB⟩ := hrel
    by_cases hlt : k < 64
    · have hck : wr.cell? ⟨b, off + k, none⟩ = some (.int .i64 (bi x k)) := by rw [hB.cell (p := ⟨b, off + k, none⟩) hbw]; exact HC.out k hlt
      have hle := bi_le x k
      have hn := bi_not x k hlt
      obtain ⟨v', w', hr, ho', hB'⟩ := app1 (bi (~~~x) k) ho hB hB.size (by rw [bl_len]; omega)
      rw [← bl_succ] at ho'
      have HO := Hd.mk ho'
      obtain ⟨z, hz⟩ : ∃ z, bi x k = z := ⟨_, rfl⟩
      rw [hz] at hck hle hn
      rw [← hn] at hr
      obtain ⟨hz0, hz1⟩ := hle
      clear ho ho' hn hz
      go_wp2_with (at_builtin; refine wpList_append_run rfl _ _ _ rfl rfl rfl hr ?_; clear hr)
      go_roundw
      case rel => exact ⟨k + 1, by omega, by go_num, HO.out, hB'⟩
      case measure => simp [intOf]; omega
    · obtain rfl : k = 64 := by omega
      go_wp2_with fail
      go_ret
      exact ⟨_, rfl, Bs.of ho, hB⟩

set_option maxHeartbeats 2000000 in
theorem sum_fr (v1 v2 : Value) (x y : BitVec 64) (c : Nat) (hc1 : c ≤ 1) (w : World) (hv1 : Bs w v1 x) (hv2 : Bs w v2 y) : Calls Try.prog 39 #[v1, v2, .int .i64 c] w fun e w' => ∃ v, e = .returned v ∧ Bs w' v (x + y + BitVec.ofNat 64 c) ∧ Below w.heap.size w w' ∧ Fr w.heap.size v := by
  obtain ⟨b, off, cp, rfl, hc, _, hbw, hcell⟩ := hv1
  obtain ⟨b2, off2, cp2, rfl, hc2, _, hbw2, hcell2⟩ := hv2
  have HC := Hd.mk hcell
  have HC2 := Hd.mk hcell2
  clear hcell hcell2
  go_enter Try.func39, Try.ntmps39
  go_wp2_with fail
  go_loopw [2, 7, 8] (fun r v i W => ∃ k : Nat, k ≤ 64 ∧ i = .int .i64 k ∧ r = .int .i64 (car x y c k) ∧ OwnE ei W w.heap.size 3 v (bl (x + y + BitVec.ofNat 64 c) k) ∧ Below w.heap.size w W) (fun _ _ i _ => 64 - (intOf i).toNat)
  case atStart => exact ⟨0, by omega, rfl, by rw [car_zero], OwnE.nil _ _ _ _, Below.refl _ _⟩
  case round =>
    obtain ⟨k, hk, rfl, rfl, ho, hB⟩ := hrel
    by_cases hlt : k < 64
    · have hck : wr.cell? ⟨b, off + k, none⟩ = some (.int .i64 (bi x k)) := by rw [hB.cell (p := ⟨b, off + k, none⟩) hbw]; exact HC.out k hlt
      have hck2 : wr.cell? ⟨b2, off2 + k, none⟩ = some (.int .i64 (bi y k)) := by rw [hB.cell (p := ⟨b2, off2 + k, none⟩) hbw2]; exact HC2.out k hlt
      have hl1 := bi_le x k
      have hl2 := bi_le y k
      have hl3 := car_le x y c k hc1
      have hbit := car_bit x y c k hlt
      have hnext := car_next x y c k
      obtain ⟨p, hp⟩ : ∃ z, bi x k = z := ⟨_, rfl⟩
      obtain ⟨q, hq⟩ : ∃ z, bi y k = z := ⟨_, rfl⟩
      obtain ⟨r, hr⟩ : ∃ z : Int, (car x y c k : Int) = z := ⟨_, rfl⟩
      obtain ⟨r', hr'⟩ : ∃ z : Int, (car x y c (k + 1) : Int) = z := ⟨_, rfl⟩
      have hr0 : 0 ≤ r ∧ r ≤ 1 := by omega
      have HR := Hd.mk hr'
      rw [hp] at hck hl1 hbit hnext
      rw [hq] at hck2 hl2 hbit hnext
      rw [hr] at hbit hnext ⊢
      rw [hr'] at hnext
      obtain ⟨hl10, hl11⟩ := hl1
      obtain ⟨hl20, hl21⟩ := hl2
      obtain ⟨hr00, hr01⟩ := hr0
      clear hp hq hr hr' hl3
      have s1 : IntKind.i64.wrap (p + q) = p + q := IntWalk.i64_in (p + q) ⟨by omega, by omega⟩
      have s2 : IntKind.i64.wrap (p + q + r) = p + q + r := IntWalk.i64_in (p + q + r) ⟨by omega, by omega⟩
      go_wp2_with fail
      go_quiet (fail)
      obtain ⟨wd, hwd⟩ : ∃ wd, wd = wr.drewN nq := ⟨_, rfl⟩
      have hBd : Below wr.heap.size wr wd := by rw [hwd]; exact below_drewN (Below.refl _ _) nq
      rw [← hwd]
      clear hwd s1 s2 hck hck2
      obtain ⟨v', w', hr', ho', hB'⟩ := app1 (bi (x + y + BitVec.ofNat 64 c) k) (ho.below hBd) (hB.trans (hBd.mono hB.size)) (Nat.le_trans hB.size hBd.size) (by rw [bl_len]; omega)
      rw [← bl_succ] at ho'
      have HO := Hd.mk ho'
      clear ho ho' hBd hB
      go_wp2_with (at_builtin; refine wpList_append_run rfl _ _ _ rfl rfl rfl hr' ?_; clear hr')
      go_roundw
      case rel => exact ⟨k + 1, by omega, by go_num, by rw [HR.out, hnext], HO.out, hB'⟩
      case measure => simp [intOf]; omega
    · obtain rfl : k = 64 := by omega
      go_wp2_with fail
      go_ret
      exact ⟨_, rfl, Bs.of ho, hB, Fr.of ho⟩

theorem sum_any (v1 v2 : Value) (x y : BitVec 64) (c : Nat) (hc1 : c ≤ 1) (w : World) (hv1 : Bs w v1 x) (hv2 : Bs w v2 y) : Calls Try.prog 39 #[v1, v2, .int .i64 c] w fun e w' => ∃ v, e = .returned v ∧ Bs w' v (x + y + BitVec.ofNat 64 c) ∧ Below w.heap.size w w' :=
  (sum_fr v1 v2 x y c hc1 w hv1 hv2).mono fun _ _ ⟨v, h1, h2, h3, _⟩ => ⟨v, h1, h2, h3⟩
end Go.Proofs.Ytbmommomhepfpaa
