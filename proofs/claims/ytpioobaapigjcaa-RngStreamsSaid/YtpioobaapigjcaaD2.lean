/- Walk of the law RngStreams. -/
import Derived.Test.YtpioobaapigjcaaC2
import Derived.Test.YtpioobaapigjcaaB4
namespace Go.Proofs.Ytpioobaapigjcaa
open Go.RowKit
set_option linter.unusedVariables false

/-- A slice of acts that came in: a kind and a number each. -/
def Acts (w : World) (v : Value) (n : Nat) : Prop :=
  n = 0 ∨ ∃ b off c, v = .slice (some ⟨b, off, none⟩) n c ∧ b < w.heap.size ∧ ∀ i, i < n → ∃ k m : Int, w.cell? ⟨b, off + i * 2, none⟩ = some (.int .u8 k) ∧ w.cell? ⟨b, off + i * 2 + 1, none⟩ = some (.int .i64 m) ∧
    0 ≤ k ∧ k ≤ 255 ∧ -9223372036854775808 ≤ m ∧ m ≤ 9223372036854775807
theorem Acts.below {w w1 : World} {v : Value} {n : Nat} (h : Acts w v n) (hB : Below w.heap.size w w1) : Acts w1 v n := by
  rcases h with h | ⟨b, off, c, hv, hb, hc⟩
  · exact .inl h
  · refine .inr ⟨b, off, c, hv, Nat.lt_of_lt_of_le hb hB.size, fun i hi => ?_⟩
    obtain ⟨k, m, h1, h2, h3⟩ := hc i hi
    exact ⟨k, m, by rw [hB.cell (p := ⟨b, off + i * 2, none⟩) hb]; exact h1, by rw [hB.cell (p := ⟨b, off + i * 2 + 1, none⟩) hb]; exact h2, h3⟩

set_option maxRecDepth 100000 in
set_option maxHeartbeats 2000000 in
theorem streams_no (seed : BitVec 64) (p : Int) (h : p < 0 ∨ 65536 < p) (a : Option Addr) (n c : Nat) (w : World) :
    Calls Try.prog 8 #[u seed, .int .i64 p, .slice a n c] w fun e w' => e = .returned (.bool true) ∧ Below w.heap.size w w' := by
  have H := Hd.mk h
  clear h
  go_enter Try.func8, Try.ntmps8
  go_wp2_with fail
  refine (New_no seed p H.out _).mono ?_
  rintro e w1 ⟨rfl, hB⟩
  go_wp2_with fail
  refine (refProcess_no p H.out _).mono ?_
  rintro e w' ⟨rfl, rfl⟩
  go_wp2_with fail
  refine (awake_any _).mono ?_
  rintro e w3 ⟨rfl, hB3⟩
  have hB4 := hB.trans (hB3.mono hB.size)
  go_wp2_with fail
  go_ret
  exact ⟨rfl, hB4⟩

set_option maxRecDepth 100000 in
set_option maxHeartbeats 2000000 in
theorem streams_long (seed : BitVec 64) (p : Int) (p0 : 0 ≤ p) (p1 : p ≤ 65536) (a : Option Addr) (n c : Nat) (hn : 100 < n) (w : World) :
    Calls Try.prog 8 #[u seed, .int .i64 p, .slice a n c] w fun e w' => e = .returned (.bool true) ∧ Below w.heap.size w w' := by
  have hn' : (100 : Int) < (n : Int) := by omega
  go_enter Try.func8, Try.ntmps8
  go_wp2_with fail
  refine (New_st seed p p0 p1 _).mono ?_
  rintro e w1 ⟨b, rfl, hb, hS, hB⟩
  go_wp2_with fail
  refine (refProcess_yes p p0 p1 _).mono ?_
  rintro e w' ⟨rfl, rfl⟩
  go_wp2_with fail
  refine (awake_any _).mono ?_
  rintro e w3 ⟨rfl, hB3⟩
  have hB4 := hB.trans (hB3.mono hB.size)
  go_wp2_with fail
  go_ret
  exact ⟨rfl, hB4⟩

set_option maxRecDepth 100000 in
set_option maxHeartbeats 2000000 in
theorem streams_empty (seed : BitVec 64) (p : Int) (p0 : 0 ≤ p) (p1 : p ≤ 65536) (a : Option Addr) (c : Nat) (w : World) :
    Calls Try.prog 8 #[u seed, .int .i64 p, .slice a 0 c] w fun e w' => e = .returned (.bool true) ∧ Below w.heap.size w w' := by
  go_enter Try.func8, Try.ntmps8
  go_wp2_with fail
  refine (New_st seed p p0 p1 _).mono ?_
  rintro e w1 ⟨b, rfl, hb, hS, hB⟩
  have HS := Hd.mk hS
  clear hS
  go_wp2_with fail
  refine (refProcess_yes p p0 p1 _).mono ?_
  rintro e w' ⟨rfl, rfl⟩
  go_wp2_with fail
  go_loop [60] (fun i => i = .int .i64 0) (fun i => (intOf i).toNat)
  case atStart => rfl
  case round =>
    obtain rfl := hrel
    go_wp2_with fail
    refine (awake_any _).mono ?_
    rintro e w3 ⟨rfl, hB3⟩
    have hB4 := hB.trans (hB3.mono hB.size)
    go_wp2_with fail
    go_ret
    exact ⟨rfl, hB4⟩

/-- In a round: the stream, and the act in its box. -/
structure RB (w : World) (t bx : Nat) (key : BitVec 64) (τ K M : Int) (W : World) : Prop where
  st : St W t key τ
  c0 : W.cell? ⟨bx, 0, none⟩ = some (.int .u8 K)
  c1 : W.cell? ⟨bx, 1, none⟩ = some (.int .i64 M)
  ne : t ≠ bx
  bl : bx < W.heap.size
  bel : Below w.heap.size w W
theorem RB.made {w wr : World} {t : Nat} {key : BitVec 64} {τ K M : Int} (h : St wr t key τ) (hB : Below w.heap.size w wr) :
    RB w t wr.heap.size key τ K M (wr.alloc (.cells #[.int .u8 K, .int .i64 M] 47)) := by
  have h1 := h.lt
  refine ⟨h.below ((Below.refl _ _).alloc (Nat.le_refl _) _) h1, cells_cell (World.alloc_heap_new wr _) 0, cells_cell (World.alloc_heap_new wr _) 1, by omega, by simp, hB.alloc hB.size _⟩
section
variable {w W W1 : World} {t bx : Nat} {key : BitVec 64} {τ τ' K M : Int}
theorem RB.below (h : RB w t bx key τ K M W) (hB : Below W.heap.size W W1) : RB w t bx key τ K M W1 :=
  ⟨h.st.below hB h.st.lt, by rw [hB.cell (p := ⟨bx, 0, none⟩) h.bl]; exact h.c0, by rw [hB.cell (p := ⟨bx, 1, none⟩) h.bl]; exact h.c1, h.ne, Nat.lt_of_lt_of_le h.bl hB.size, h.bel.trans (hB.mono h.bel.size)⟩
theorem RB.step (h : RB w t bx key τ K M W) (ht : w.heap.size ≤ t) (hS : St W1 t key τ') (hg : W.grownBy W1 (some t)) : RB w t bx key τ' K M W1 :=
  ⟨hS, hg.cell h.c0 (by simpa using h.ne.symm), hg.cell h.c1 (by simpa using h.ne.symm), h.ne, Nat.lt_of_lt_of_le h.bl hg.size, h.bel.trans (below_grown hg ht h.bel.size)⟩
end

set_option maxRecDepth 100000 in
set_option maxHeartbeats 20000000 in
theorem streams_yes (seed : BitVec 64) (p : Int) (p0 : 0 ≤ p) (p1 : p ≤ 65536) (b off n c : Nat) (hn : n ≤ 100) (w : World) (hA : Acts w (.slice (some ⟨b, off, none⟩) n c) n) :
    Calls Try.prog 8 #[u seed, .int .i64 p, .slice (some ⟨b, off, none⟩) n c] w fun e w' => e = .returned (.bool true) ∧ Below w.heap.size w w' := by
  have HA := Hd.mk hA
  clear hA
  go_enter Try.func8, Try.ntmps8
  go_wp2_with fail
  refine (New_st seed p p0 p1 _).mono ?_
  rintro e w1 ⟨t, rfl, ht, hS, hB⟩
  have HS := Hd.mk hS
  clear hS
  go_wp2_with fail
  refine (refProcess_yes p p0 p1 _).mono ?_
  rintro e w' ⟨rfl, rfl⟩
  go_wp2_with fail
  go_loopw [9, 60] (fun a i W => ∃ (j : Nat) (τ : Int), j ≤ n ∧ 0 ≤ τ ∧ τ ≤ 281474976710657 ∧ a = .int .i64 τ ∧ i = .int .i64 j ∧ St W t (keyV seed p) τ ∧ Below w.heap.size w W) (fun _ i _ => n - (intOf i).toNat)
  case atStart => exact ⟨0, 0, by omega, by omega, by omega, rfl, rfl, HS.out, hB⟩
  case round =>
    obtain ⟨j, τ, hj, t0, t1, rfl, rfl, hS, hB2⟩ := hrel
    have HS2 := Hd.mk hS
    clear hS
    by_cases hlt : j < n
    · have hAr := HA.out.below hB2
      have hdj : decide ((j : Int) < (n : Int)) = true := decide_eq_true (by omega)
      rcases hAr with hz | ⟨b', off', c', hv, hbw, hcells⟩
      · omega
      simp only [Value.slice.injEq, Option.some.injEq, Addr.mk.injEq] at hv
      obtain ⟨⟨rfl, rfl, -⟩, -, rfl⟩ := hv
      obtain ⟨K, M, hK, hM, K0, K1, M0, M1⟩ := hcells j hlt
      clear hcells
      obtain ⟨rr, hrr⟩ : ∃ r, K % 5 = r := ⟨_, rfl⟩
      have hr5 : rr = 0 ∨ rr = 1 ∨ rr = 2 ∨ rr = 3 ∨ rr = 4 := by omega
      by_cases hfull : 281474976710656 < τ
      · rcases hr5 with rfl | rfl | rfl | rfl | rfl
        · have HR := Hd.mk (RB.made (K := K) (M := M) HS2.out hB2)
          clear HS2 hB2 hB HS
          go_wp2_with fail
          refine (Next_st_full HR.out.st hfull).mono ?_
          rintro e w21 ⟨rfl, hB'⟩
          have HR' := Hd.mk (HR.out.below hB')
          clear HR hB'
          have HR := HR'
          clear HR'
          have hm := HR.out.c1
          have hk0 := HR.out.c0
          go_wp2_with fail
          refine (Index_st HR.out.st).mono ?_
          rintro e w22 ⟨rfl, rfl⟩
          go_wp2_with fail
          go_roundw
          case rel => exact ⟨j + 1, τ, by omega, by omega, by omega, rfl, by go_num, HR.out.st, HR.out.bel⟩
          case measure => simp [intOf]; omega
        · have HR := Hd.mk (RB.made (K := K) (M := M) HS2.out hB2)
          clear HS2 hB2 hB HS
          go_wp2_with fail
          refine (Next_st_full HR.out.st hfull).mono ?_
          rintro e w21 ⟨rfl, hB'⟩
          have HR' := Hd.mk (HR.out.below hB')
          clear HR hB'
          have HR := HR'
          clear HR'
          have hm := HR.out.c1
          have hk0 := HR.out.c0
          go_wp2_with fail
          refine (Index_st HR.out.st).mono ?_
          rintro e w22 ⟨rfl, rfl⟩
          go_wp2_with fail
          go_roundw
          case rel => exact ⟨j + 1, τ, by omega, by omega, by omega, rfl, by go_num, HR.out.st, HR.out.bel⟩
          case measure => simp [intOf]; omega
        · by_cases hM1 : 1 ≤ M
          · have HR := Hd.mk (RB.made (K := K) (M := M) HS2.out hB2)
            clear HS2 hB2 hB HS
            go_wp2_with fail
            refine (DrawS_full HR.out.st hfull M hM1).mono ?_
            rintro e w21 ⟨rfl, hB'⟩
            have HR' := Hd.mk (HR.out.below hB')
            clear HR hB'
            have HR := HR'
            clear HR'
            have hm := HR.out.c1
            have hk0 := HR.out.c0
            go_wp2_with fail
            refine (Index_st HR.out.st).mono ?_
            rintro e w22 ⟨rfl, rfl⟩
            go_wp2_with fail
            go_roundw
            case rel => exact ⟨j + 1, τ, by omega, by omega, by omega, rfl, by go_num, HR.out.st, HR.out.bel⟩
            case measure => simp [intOf]; omega
          · have hM1 : M < 1 := by omega
            have HR := Hd.mk (RB.made (K := K) (M := M) HS2.out hB2)
            clear HS2 hB2 hB HS
            go_wp2_with fail
            refine (DrawS_no HR.out.st M hM1).mono ?_
            rintro e w21 ⟨rfl, rfl⟩
            go_wp2_with fail
            refine (Index_st HR.out.st).mono ?_
            rintro e w22 ⟨rfl, rfl⟩
            go_wp2_with fail
            go_roundw
            case rel => exact ⟨j + 1, τ, by omega, by omega, by omega, rfl, by go_num, HR.out.st, HR.out.bel⟩
            case measure => simp [intOf]; omega
        · by_cases hM1 : 1 ≤ M
          · have HR := Hd.mk (RB.made (K := K) (M := M) HS2.out hB2)
            clear HS2 hB2 hB HS
            go_wp2_with fail
            refine (DrawS_full HR.out.st hfull M hM1).mono ?_
            rintro e w21 ⟨rfl, hB'⟩
            have HR' := Hd.mk (HR.out.below hB')
            clear HR hB'
            have HR := HR'
            clear HR'
            have hm := HR.out.c1
            have hk0 := HR.out.c0
            go_wp2_with fail
            refine (Index_st HR.out.st).mono ?_
            rintro e w22 ⟨rfl, rfl⟩
            go_wp2_with fail
            go_roundw
            case rel => exact ⟨j + 1, τ, by omega, by omega, by omega, rfl, by go_num, HR.out.st, HR.out.bel⟩
            case measure => simp [intOf]; omega
          · have hM1 : M < 1 := by omega
            have HR := Hd.mk (RB.made (K := K) (M := M) HS2.out hB2)
            clear HS2 hB2 hB HS
            go_wp2_with fail
            refine (DrawS_no HR.out.st M hM1).mono ?_
            rintro e w21 ⟨rfl, rfl⟩
            go_wp2_with fail
            refine (Index_st HR.out.st).mono ?_
            rintro e w22 ⟨rfl, rfl⟩
            go_wp2_with fail
            go_roundw
            case rel => exact ⟨j + 1, τ, by omega, by omega, by omega, rfl, by go_num, HR.out.st, HR.out.bel⟩
            case measure => simp [intOf]; omega
        · by_cases hM1 : 0 ≤ M
          · by_cases hM2 : M ≤ 281474976710657
            · have HR := Hd.mk (RB.made (K := K) (M := M) HS2.out hB2)
              clear HS2 hB2 hB HS
              go_wp2_with fail
              refine (Move_st HR.out.st M hM1 hM2).mono ?_
              rintro e w21 ⟨rfl, hS', hg'⟩
              have HR' := Hd.mk (HR.out.step ht hS' hg')
              clear HR hS' hg'
              have HR := HR'
              clear HR'
              have hm := HR.out.c1
              have hk0 := HR.out.c0
              go_wp2_with fail
              refine (Index_st HR.out.st).mono ?_
              rintro e w22 ⟨rfl, rfl⟩
              go_wp2_with fail
              go_roundw
              case rel => exact ⟨j + 1, M, by omega, by omega, by omega, rfl, by go_num, HR.out.st, HR.out.bel⟩
              case measure => simp [intOf]; omega
            · have hbad : Hd (M < 0 ∨ 281474976710657 < M) := ⟨.inr (by omega)⟩
              have HR := Hd.mk (RB.made (K := K) (M := M) HS2.out hB2)
              clear HS2 hB2 hB HS
              go_wp2_with fail
              refine (Move_no t M _ hbad.out (cells_cell HR.out.st 2)).mono ?_
              rintro e w21 ⟨rfl, rfl⟩
              go_wp2_with fail
              refine (Index_st HR.out.st).mono ?_
              rintro e w22 ⟨rfl, rfl⟩
              go_wp2_with fail
              go_roundw
              case rel => exact ⟨j + 1, τ, by omega, by omega, by omega, rfl, by go_num, HR.out.st, HR.out.bel⟩
              case measure => simp [intOf]; omega
          · have hbad : Hd (M < 0 ∨ 281474976710657 < M) := ⟨.inl (by omega)⟩
            have HR := Hd.mk (RB.made (K := K) (M := M) HS2.out hB2)
            clear HS2 hB2 hB HS
            go_wp2_with fail
            refine (Move_no t M _ hbad.out (cells_cell HR.out.st 2)).mono ?_
            rintro e w21 ⟨rfl, rfl⟩
            go_wp2_with fail
            refine (Index_st HR.out.st).mono ?_
            rintro e w22 ⟨rfl, rfl⟩
            go_wp2_with fail
            go_roundw
            case rel => exact ⟨j + 1, τ, by omega, by omega, by omega, rfl, by go_num, HR.out.st, HR.out.bel⟩
            case measure => simp [intOf]; omega
      · rcases hr5 with rfl | rfl | rfl | rfl | rfl
        · have HR := Hd.mk (RB.made (K := K) (M := M) HS2.out hB2)
          clear HS2 hB2 hB HS
          go_wp2_with fail
          refine (refValue_any seed p τ p0 p1 t0 (by omega) _).mono ?_
          rintro e w21 ⟨rfl, hB'⟩
          have HR' := Hd.mk (HR.out.below hB')
          clear HR hB'
          have HR := HR'
          clear HR'
          have hm := HR.out.c1
          have hk0 := HR.out.c0
          go_wp2_with fail
          refine (Next_st HR.out.st t0 (by omega)).mono ?_
          rintro e w22 ⟨rfl, hS', hg'⟩
          have HR' := Hd.mk (HR.out.step ht hS' hg')
          clear HR hS' hg'
          have HR := HR'
          clear HR'
          have hm := HR.out.c1
          have hk0 := HR.out.c0
          go_wp2_with fail
          refine (Index_st HR.out.st).mono ?_
          rintro e w23 ⟨rfl, rfl⟩
          go_wp2_with fail
          go_roundw
          case rel => exact ⟨j + 1, τ + 1, by omega, by omega, by omega, rfl, by go_num, HR.out.st, HR.out.bel⟩
          case measure => simp [intOf]; omega
        · have HR := Hd.mk (RB.made (K := K) (M := M) HS2.out hB2)
          clear HS2 hB2 hB HS
          go_wp2_with fail
          refine (refValue_any seed p τ p0 p1 t0 (by omega) _).mono ?_
          rintro e w21 ⟨rfl, hB'⟩
          have HR' := Hd.mk (HR.out.below hB')
          clear HR hB'
          have HR := HR'
          clear HR'
          have hm := HR.out.c1
          have hk0 := HR.out.c0
          go_wp2_with fail
          refine (Next_st HR.out.st t0 (by omega)).mono ?_
          rintro e w22 ⟨rfl, hS', hg'⟩
          have HR' := Hd.mk (HR.out.step ht hS' hg')
          clear HR hS' hg'
          have HR := HR'
          clear HR'
          have hm := HR.out.c1
          have hk0 := HR.out.c0
          go_wp2_with fail
          refine (Index_st HR.out.st).mono ?_
          rintro e w23 ⟨rfl, rfl⟩
          go_wp2_with fail
          go_roundw
          case rel => exact ⟨j + 1, τ + 1, by omega, by omega, by omega, rfl, by go_num, HR.out.st, HR.out.bel⟩
          case measure => simp [intOf]; omega
        · by_cases hM1 : 1 ≤ M
          · have HR := Hd.mk (RB.made (K := K) (M := M) HS2.out hB2)
            clear HS2 hB2 hB HS
            go_wp2_with fail
            refine (refValue_any seed p τ p0 p1 t0 (by omega) _).mono ?_
            rintro e w21 ⟨rfl, hB'⟩
            have HR' := Hd.mk (HR.out.below hB')
            clear HR hB'
            have HR := HR'
            clear HR'
            have hm := HR.out.c1
            have hk0 := HR.out.c0
            go_wp2_with fail
            refine (DrawS_yes HR.out.st t0 (by omega) M hM1 M1).mono ?_
            rintro e w22 ⟨rfl, hS', hg'⟩
            have HR' := Hd.mk (HR.out.step ht hS' hg')
            clear HR hS' hg'
            have HR := HR'
            clear HR'
            have hm := HR.out.c1
            have hk0 := HR.out.c0
            go_wp2_with fail
            refine (refBelow_any _ M hM1 M1 _).mono ?_
            rintro e w23 ⟨rfl, rfl⟩
            go_wp2_with fail
            refine (Index_st HR.out.st).mono ?_
            rintro e w24 ⟨rfl, rfl⟩
            go_wp2_with fail
            go_roundw
            case rel => exact ⟨j + 1, τ + 1, by omega, by omega, by omega, rfl, by go_num, HR.out.st, HR.out.bel⟩
            case measure => simp [intOf]; omega
          · have hM1 : M < 1 := by omega
            have HR := Hd.mk (RB.made (K := K) (M := M) HS2.out hB2)
            clear HS2 hB2 hB HS
            go_wp2_with fail
            refine (refValue_any seed p τ p0 p1 t0 (by omega) _).mono ?_
            rintro e w21 ⟨rfl, hB'⟩
            have HR' := Hd.mk (HR.out.below hB')
            clear HR hB'
            have HR := HR'
            clear HR'
            have hm := HR.out.c1
            have hk0 := HR.out.c0
            go_wp2_with fail
            refine (DrawS_no HR.out.st M hM1).mono ?_
            rintro e w22 ⟨rfl, rfl⟩
            go_wp2_with fail
            refine (Index_st HR.out.st).mono ?_
            rintro e w23 ⟨rfl, rfl⟩
            go_wp2_with fail
            go_roundw
            case rel => exact ⟨j + 1, τ, by omega, by omega, by omega, rfl, by go_num, HR.out.st, HR.out.bel⟩
            case measure => simp [intOf]; omega
        · by_cases hM1 : 1 ≤ M
          · have HR := Hd.mk (RB.made (K := K) (M := M) HS2.out hB2)
            clear HS2 hB2 hB HS
            go_wp2_with fail
            refine (refValue_any seed p τ p0 p1 t0 (by omega) _).mono ?_
            rintro e w21 ⟨rfl, hB'⟩
            have HR' := Hd.mk (HR.out.below hB')
            clear HR hB'
            have HR := HR'
            clear HR'
            have hm := HR.out.c1
            have hk0 := HR.out.c0
            go_wp2_with fail
            refine (DrawS_yes HR.out.st t0 (by omega) M hM1 M1).mono ?_
            rintro e w22 ⟨rfl, hS', hg'⟩
            have HR' := Hd.mk (HR.out.step ht hS' hg')
            clear HR hS' hg'
            have HR := HR'
            clear HR'
            have hm := HR.out.c1
            have hk0 := HR.out.c0
            go_wp2_with fail
            refine (refBelow_any _ M hM1 M1 _).mono ?_
            rintro e w23 ⟨rfl, rfl⟩
            go_wp2_with fail
            refine (Index_st HR.out.st).mono ?_
            rintro e w24 ⟨rfl, rfl⟩
            go_wp2_with fail
            go_roundw
            case rel => exact ⟨j + 1, τ + 1, by omega, by omega, by omega, rfl, by go_num, HR.out.st, HR.out.bel⟩
            case measure => simp [intOf]; omega
          · have hM1 : M < 1 := by omega
            have HR := Hd.mk (RB.made (K := K) (M := M) HS2.out hB2)
            clear HS2 hB2 hB HS
            go_wp2_with fail
            refine (refValue_any seed p τ p0 p1 t0 (by omega) _).mono ?_
            rintro e w21 ⟨rfl, hB'⟩
            have HR' := Hd.mk (HR.out.below hB')
            clear HR hB'
            have HR := HR'
            clear HR'
            have hm := HR.out.c1
            have hk0 := HR.out.c0
            go_wp2_with fail
            refine (DrawS_no HR.out.st M hM1).mono ?_
            rintro e w22 ⟨rfl, rfl⟩
            go_wp2_with fail
            refine (Index_st HR.out.st).mono ?_
            rintro e w23 ⟨rfl, rfl⟩
            go_wp2_with fail
            go_roundw
            case rel => exact ⟨j + 1, τ, by omega, by omega, by omega, rfl, by go_num, HR.out.st, HR.out.bel⟩
            case measure => simp [intOf]; omega
        · by_cases hM1 : 0 ≤ M
          · by_cases hM2 : M ≤ 281474976710657
            · have HR := Hd.mk (RB.made (K := K) (M := M) HS2.out hB2)
              clear HS2 hB2 hB HS
              go_wp2_with fail
              refine (refValue_any seed p τ p0 p1 t0 (by omega) _).mono ?_
              rintro e w21 ⟨rfl, hB'⟩
              have HR' := Hd.mk (HR.out.below hB')
              clear HR hB'
              have HR := HR'
              clear HR'
              have hm := HR.out.c1
              have hk0 := HR.out.c0
              go_wp2_with fail
              refine (Move_st HR.out.st M hM1 hM2).mono ?_
              rintro e w22 ⟨rfl, hS', hg'⟩
              have HR' := Hd.mk (HR.out.step ht hS' hg')
              clear HR hS' hg'
              have HR := HR'
              clear HR'
              have hm := HR.out.c1
              have hk0 := HR.out.c0
              go_wp2_with fail
              refine (Index_st HR.out.st).mono ?_
              rintro e w23 ⟨rfl, rfl⟩
              go_wp2_with fail
              go_roundw
              case rel => exact ⟨j + 1, M, by omega, by omega, by omega, rfl, by go_num, HR.out.st, HR.out.bel⟩
              case measure => simp [intOf]; omega
            · have hbad : Hd (M < 0 ∨ 281474976710657 < M) := ⟨.inr (by omega)⟩
              have HR := Hd.mk (RB.made (K := K) (M := M) HS2.out hB2)
              clear HS2 hB2 hB HS
              go_wp2_with fail
              refine (refValue_any seed p τ p0 p1 t0 (by omega) _).mono ?_
              rintro e w21 ⟨rfl, hB'⟩
              have HR' := Hd.mk (HR.out.below hB')
              clear HR hB'
              have HR := HR'
              clear HR'
              have hm := HR.out.c1
              have hk0 := HR.out.c0
              go_wp2_with fail
              refine (Move_no t M _ hbad.out (cells_cell HR.out.st 2)).mono ?_
              rintro e w22 ⟨rfl, rfl⟩
              go_wp2_with fail
              refine (Index_st HR.out.st).mono ?_
              rintro e w23 ⟨rfl, rfl⟩
              go_wp2_with fail
              go_roundw
              case rel => exact ⟨j + 1, τ, by omega, by omega, by omega, rfl, by go_num, HR.out.st, HR.out.bel⟩
              case measure => simp [intOf]; omega
          · have hbad : Hd (M < 0 ∨ 281474976710657 < M) := ⟨.inl (by omega)⟩
            have HR := Hd.mk (RB.made (K := K) (M := M) HS2.out hB2)
            clear HS2 hB2 hB HS
            go_wp2_with fail
            refine (refValue_any seed p τ p0 p1 t0 (by omega) _).mono ?_
            rintro e w21 ⟨rfl, hB'⟩
            have HR' := Hd.mk (HR.out.below hB')
            clear HR hB'
            have HR := HR'
            clear HR'
            have hm := HR.out.c1
            have hk0 := HR.out.c0
            go_wp2_with fail
            refine (Move_no t M _ hbad.out (cells_cell HR.out.st 2)).mono ?_
            rintro e w22 ⟨rfl, rfl⟩
            go_wp2_with fail
            refine (Index_st HR.out.st).mono ?_
            rintro e w23 ⟨rfl, rfl⟩
            go_wp2_with fail
            go_roundw
            case rel => exact ⟨j + 1, τ, by omega, by omega, by omega, rfl, by go_num, HR.out.st, HR.out.bel⟩
            case measure => simp [intOf]; omega
    · obtain rfl : j = n := by omega
      go_wp2_with fail
      refine (awake_any _).mono ?_
      rintro e w3 ⟨rfl, hB3⟩
      have hB4 := hB2.trans (hB3.mono hB2.size)
      go_wp2_with fail
      go_ret
      exact ⟨rfl, hB4⟩
end Go.Proofs.Ytpioobaapigjcaa
