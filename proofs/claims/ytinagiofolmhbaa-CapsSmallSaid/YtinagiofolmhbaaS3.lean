/- The law CapsSmall: its walk. -/
import Derived.Test.YtinagiofolmhbaaS2
import Derived.Test.YtinagiofolmhbaaPL6
namespace Go.Proofs.Ytinagiofolmhbaa
open Go.RowKit
set_option linter.unusedVariables false
set_option linter.unusedSimpArgs false


set_option maxRecDepth 100000 in
theorem info65 : ∃ i z, Try.prog.info? 65 = some i ∧ i.zero = some z ∧ z.cells.size = 5 ∧ i.size = 5 ∧ i.bytes = 40 :=
  ⟨_, _, rfl, rfl, by kernel_rfl, by kernel_rfl, by kernel_rfl⟩
def numL (x y : Int) : List Ac := [⟨0#8, 0, x, 0, 15#8⟩, ⟨0#8, 0, 0, x, 15#8⟩, ⟨0#8, 0, 0, 0, 15#8⟩, ⟨2#8, x, 0, 0, 4#8⟩, ⟨2#8, y, 0, 0, 4#8⟩, ⟨2#8, 1, 0, x, 4#8⟩, ⟨2#8, x, 0, x, 16#8⟩, ⟨5#8, x, 0, 0, 0#8⟩, ⟨7#8, 0, x, 0, 0#8⟩, ⟨0#8, 0, x, 0, 16#8⟩]
def numC (x y : Int) : Array Value := #[.int .u8 0, .int .i64 0, .int .i64 x, .int .i64 0, .int .u8 15, .int .u8 0, .int .i64 0, .int .i64 0, .int .i64 x, .int .u8 15, .int .u8 0, .int .i64 0, .int .i64 0, .int .i64 0, .int .u8 15, .int .u8 2, .int .i64 x, .int .i64 0, .int .i64 0, .int .u8 4, .int .u8 2, .int .i64 y, .int .i64 0, .int .i64 0, .int .u8 4, .int .u8 2, .int .i64 1, .int .i64 0, .int .i64 x, .int .u8 4, .int .u8 2, .int .i64 x, .int .i64 0, .int .i64 x, .int .u8 16, .int .u8 5, .int .i64 x, .int .i64 0, .int .i64 0, .int .u8 0, .int .u8 7, .int .i64 0, .int .i64 x, .int .i64 0, .int .u8 0, .int .u8 0, .int .i64 0, .int .i64 x, .int .i64 0, .int .u8 16]
theorem num_flat (x y : Int) : numC x y = (flatN aL (numL x y)).toArray := rfl
theorem num_ok {x y : Int} (hx : -9223372036854775808 ≤ x ∧ x ≤ 9223372036854775807) (hy : -9223372036854775808 ≤ y ∧ y ≤ 9223372036854775807) : ∀ a ∈ numL x y, -9223372036854775808 ≤ a.ser ∧ a.ser ≤ 9223372036854775807 := by
  intro a ha
  unfold numL at ha
  simp only [List.mem_cons, List.not_mem_nil, or_false] at ha
  rcases ha with rfl | rfl | rfl | rfl | rfl | rfl | rfl | rfl | rfl | rfl <;> simp only <;> omega
theorem num_own {W : World} {base g : Nat} {x y : Int} (h : W.heap[g]? = some (.cells (numC x y) 65 (0, 0))) (hb : base ≤ g) : OwnN aL W base 65 (.slice (some ⟨g, 0, none⟩) 10 10) (numL x y) := by
  have hl : (flatN aL (numL x y)).length = 50 := by rw [flatN_len]; rfl
  refine ⟨by rw [hl]; rfl, .inr ⟨g, 10, numC x y, rfl, hb, h, Nat.le_refl _, by simp [maxLen], by rw [num_flat]; simp [hl]; rfl, ?_⟩⟩
  rw [num_flat]
  exact List.take_of_length_le (by rw [hl]; exact Nat.le_refl _)
theorem num_twice {W : World} {base g : Nat} {x y : Int} (h : W.heap[g]? = some (.cells (numC x y) 65 (0, 0))) (hb : base ≤ g) (hbw : base ≤ W.heap.size) :
    ∃ v' w', (Builtin.append_ #[62, 62] 62 #[.slice (some ⟨g, 0, none⟩) 10 10, .slice (some ⟨g, 0, none⟩) 10 10]).run Try.prog W = .ok v' w' ∧ OwnN aL w' base 65 v' (numL x y ++ numL x y) ∧ ∀ {w0 : World}, Below base w0 W → Below base w0 w' := by
  obtain ⟨i, z, hi, hz, hzs, hsz, hby⟩ := info65
  have ho := num_own h hb
  obtain ⟨v', w', hr, hn, hg⟩ := OwnN.append (P := Try.prog) 62 i z 40 Try.underlying62 hi hz hsz hby hzs (by decide) ho hbw ho.src (by simp [numL, maxLen]) (by simp [numL])
  exact ⟨v', w', hr, hn, fun hB => OwnN.grown ho hB hbw hg⟩
theorem wrap_range (x : Int) : -9223372036854775808 ≤ IntKind.i64.wrap x ∧ IntKind.i64.wrap x ≤ 9223372036854775807 := by
  have h := wrap_within .i64 x
  exact h
def nums : List Int := [-9223372036854775808, -1, 0, 1, 2, 16, 17, 4294967295, 4294967296, 281474976710655, 281474976710656, 281474976710657, 9223372036854775807]
theorem nums_ok : ∀ x ∈ nums, -9223372036854775808 ≤ x ∧ x ≤ 9223372036854775807 := by decide
set_option maxRecDepth 100000 in
set_option maxHeartbeats 8000000 in
theorem small_law (w : World) : Calls Try.prog 9 #[] w fun e w' => e = .returned (.bool true) ∧ Below w.heap.size w w' := by
  go_enter Try.func9, Try.ntmps9
  go_wp2_with fail
  obtain ⟨w1, hw1⟩ : ∃ W, (w.alloc (.cells lit11 65)) = W := ⟨_, rfl⟩
  have hBl : w1.heap[w.heap.size]? = some (.cells lit11 65 (0, 0)) := by rw [← hw1]; exact heap_alloc_new _ _
  have hBw : Below w.heap.size w w1 := by rw [← hw1]; exact (Below.refl _ _).alloc (Nat.le_refl _) _
  unfold lit11 at hw1
  try rw [hw1]
  obtain ⟨B, hB⟩ : ∃ b, w.heap.size = b := ⟨_, rfl⟩
  rw [hB] at hBl
  try rw [hB]
  have HBL := Hd.mk hBl
  have HBW := Hd.mk hBw
  clear hw1 hB hBl hBw
  go_loopw [52] (fun i W => ∃ n : Nat, n ≤ 14641 ∧ i = .int .i64 n ∧ Hd (Below w1.heap.size w1 W)) (fun i _ => 14641 - (intOf i).toNat)
  case atStart => exact ⟨0, by omega, rfl, ⟨Below.refl _ _⟩⟩
  case round =>
    obtain ⟨n, hn, rfl, HR⟩ := hrel
    by_cases hlt : n < 14641
    · have t0 : decide ((n : Int) < 14641) = true := by simp; omega
      have HLT := Hd.mk hlt
      have hwk : IntKind.i64.wrap ((n : Int) + 1) = (n : Int) + 1 := IntWalk.i64_in _ ⟨by omega, by omega⟩
      clear hlt hn
      go_wp2_with fail
      refine r5 wr B n ((HR.out.block B (lt_heap HBL.out)).trans HBL.out) HLT.out _ (fun c a t v w h => h) ?_
      intro d55 d56 d57 d58 d59 d60 d61 d62 d63 d64 d65 d66 d67 d68 d69 d70 d71 d72 d73 d74 d75 d76 d77 d78 d79 d80 d81 wx hx
      have HX := Hd.mk (HR.out.trans (hx.mono HR.out.size))
      clear hx
      go_wp2_with fail
      go_roundw
      case rel => exact ⟨n + 1, by have := HLT.out; omega, by go_num, HX⟩
      case measure => have := HLT.out; simp [intOf]; omega
    · obtain rfl : n = 14641 := by omega
      rw [show ((14641 : Nat) : Int) = 14641 from rfl]
      have HBW1 : Hd (Below w.heap.size w wr) := ⟨HBW.out.trans (HR.out.mono HBW.out.size)⟩
      rename World => wn
      clear hlt hn HR HBL
      go_upto_region 10 with fail
      obtain ⟨w3, hw3⟩ : ∃ W, (wn.alloc (.cells #[.int .i64 (-9223372036854775808), .int .i64 (-1), .int .i64 0, .int .i64 1, .int .i64 2, .int .i64 16, .int .i64 17, .int .i64 4294967295, .int .i64 4294967296, .int .i64 281474976710655, .int .i64 281474976710656, .int .i64 281474976710657, .int .i64 9223372036854775807] 3)) = W := ⟨_, rfl⟩
      have hN3 : w3.heap[wn.heap.size]? = some (.cells #[.int .i64 (-9223372036854775808), .int .i64 (-1), .int .i64 0, .int .i64 1, .int .i64 2, .int .i64 16, .int .i64 17, .int .i64 4294967295, .int .i64 4294967296, .int .i64 281474976710655, .int .i64 281474976710656, .int .i64 281474976710657, .int .i64 9223372036854775807] 3 (0, 0)) := by rw [← hw3]; exact heap_alloc_new _ _
      have HB3 : Hd (Below w.heap.size w w3) := ⟨by rw [← hw3]; exact HBW1.out.alloc HBW1.out.size _⟩
      rw [hw3]
      obtain ⟨Bn, hBn⟩ : ∃ b, wn.heap.size = b := ⟨_, rfl⟩
      rw [hBn] at hN3
      try rw [hBn]
      have HNL := Hd.mk (lt_heap hN3)
      have HNU := Hd.mk (srcI_box hN3 nums rfl)
      clear hw3 hBn hN3 HBW HBW1
      go_loopw [87] (fun i W => ∃ k : Nat, k ≤ 13 ∧ i = .int .i64 k ∧ Hd (Below w3.heap.size w3 W)) (fun i _ => 13 - (intOf i).toNat)
      case atStart => exact ⟨0, by omega, rfl, ⟨Below.refl _ _⟩⟩
      case round =>
        obtain ⟨k, hk, rfl, HR⟩ := hrel
        by_cases hlt : k < 13
        · have hkn : k < nums.length := hlt
          obtain ⟨b, off, hbe, _, hc⟩ := (HNU.out.below HR.out).at k hkn
          cases hbe
          have hmem := List.getElem_mem hkn
          obtain ⟨x, hc2, hmem2⟩ : ∃ x, wr.cell? ⟨Bn, 0 + k, none⟩ = some (.int .i64 x) ∧ x ∈ nums := ⟨_, hc, hmem⟩
          clear hc hmem
          have HXR := Hd.mk (nums_ok x hmem2)
          simp only [Nat.zero_add] at hc2
          have v0 : wr.cell? ⟨Bn, k, none⟩ = some (.int .i64 x) := hc2
          have k0 : (0 : Int) ≤ (k : Int) := by omega
          have k1 : (k : Int) < 13 := by omega
          have HWK : Hd (IntKind.i64.wrap ((k : Int) + 1) = (k : Int) + 1) := ⟨IntWalk.i64_in _ ⟨by omega, by omega⟩⟩
          have HLT := Hd.mk hlt
          have hyr := wrap_range (x + 1)
          obtain ⟨y, hy⟩ : ∃ y, IntKind.i64.wrap (x + 1) = y := ⟨_, rfl⟩
          rw [hy] at hyr
          have HYR := Hd.mk hyr
          have t0 : decide ((k : Int) < 13) = true := by simp; omega
          clear hlt hk hc2 hmem2 hyr hkn
          go_upto_region 13 with fail
          clear hy v0 k0 k1 t0
          obtain ⟨w4, hw4⟩ : ∃ W, (wr.alloc (.cells (numC x y) 65)) = W := ⟨_, rfl⟩
          have hb4 : w4.heap[wr.heap.size]? = some (.cells (numC x y) 65 (0, 0)) := by rw [← hw4]; exact heap_alloc_new _ _
          have hB4 : Below wr.heap.size wr w4 := by rw [← hw4]; exact (Below.refl _ _).alloc (Nat.le_refl _) _
          unfold numC at hw4
          rw [hw4]
          obtain ⟨g, hg⟩ : ∃ b, wr.heap.size = b := ⟨_, rfl⟩
          have HGB : Hd (w3.heap.size ≤ g) := ⟨by rw [← hg]; exact HR.out.size⟩
          rw [hg] at hb4 ⊢
          have HG4 := Hd.mk hb4
          have HB4 : Hd (Below w3.heap.size w3 w4) := ⟨HR.out.trans (hB4.mono HR.out.size)⟩
          clear hw4 hb4 hB4 hg
          have hsrc := fun (W : World) (h : W.heap[g]? = some (.cells (numC x y) 65 (0, 0))) => srcN_box aL (numL x y) h (num_flat x y) (by simp [numL])
          have HSRC := Hd.mk hsrc
          clear hsrc
          have HC1 := Hd.mk (acts_any (nxt := 1) (HSRC.out w4 HG4.out) (num_ok HXR.out HYR.out))
          go_wp2_with fail
          refine HC1.out.mono ?_
          rintro e w5 ⟨rfl, hB⟩
          have HG5 := Hd.mk ((hB.block g (lt_heap HG4.out)).trans HG4.out)
          have HB5 := Hd.mk (HB4.out.trans (hB.mono HB4.out.size))
          clear hB HC1
          have HC2 := Hd.mk (acts_any (nxt := x) (HSRC.out w5 HG5.out) (num_ok HXR.out HYR.out))
          go_wp2_with fail
          refine HC2.out.mono ?_
          rintro e w6 ⟨rfl, hB⟩
          have HG6 := Hd.mk ((hB.block g (lt_heap HG5.out)).trans HG5.out)
          have HB6 := Hd.mk (HB5.out.trans (hB.mono HB5.out.size))
          clear hB HC2
          obtain ⟨v', w7, hr, ho, hgr⟩ := num_twice HG6.out HGB.out HB6.out.size
          have HB7 := Hd.mk (hgr HB6.out)
          obtain ⟨av, cv, hav⟩ := ho.shape
          subst hav
          have HC3 := Hd.mk (acts_any (nxt := 281474976710655) ho.src (fun a ha => by
            rcases List.mem_append.1 ha with ha | ha
            · exact num_ok HXR.out HYR.out a ha
            · exact num_ok HXR.out HYR.out a ha))
          clear ho hgr
          go_wp2_with (at_builtin; refine wpList_append_run rfl _ _ _ rfl rfl rfl hr ?_; clear hr)
          refine HC3.out.mono ?_
          rintro e w8 ⟨rfl, hB⟩
          have HB8 := Hd.mk (HB7.out.trans (hB.mono HB7.out.size))
          have hwk := HWK.out
          clear hB HC3
          go_wp2_with fail
          go_roundw
          case rel => exact ⟨k + 1, by have := HLT.out; omega, by go_num, HB8⟩
          case measure => have := HLT.out; simp [intOf]; omega
        · obtain rfl : k = 13 := by omega
          rw [show ((13 : Nat) : Int) = 13 from rfl]
          have HBA : Hd (Below w.heap.size w wr) := ⟨HB3.out.trans (HR.out.mono HB3.out.size)⟩
          rename World => wa
          clear hlt hk HR HNU HNL HB3
          go_wp2_with fail
          refine (new_any 1 wa (by decide)).mono ?_
          rintro e w9 ⟨M, rfl, hm, hB⟩
          have HM0 : Hd (TabAt w9 (fun k => k < wa.heap.size) M (fS 0)) := ⟨hm⟩
          have FB0 := Hd.mk (Held.below (HBA.out.trans (hB.mono HBA.out.size)) (pr := fun k => k < wa.heap.size) (fun k hk => Nat.lt_of_lt_of_le hk HBA.out.size))
          clear hm hB HBA
          go_wp2_with fail
          have HQ0 : Hd (Kept (fun k => k < wa.heap.size) w9 w9) := ⟨Kept.refl _ _⟩
          go_loopw [140] (fun i W => ∃ k : Nat, k ≤ 256 ∧ i = .int .i64 k ∧ Hd (TabAt W (fun k => k < wa.heap.size) M (fS k)) ∧ Hd (Kept (fun k => k < wa.heap.size) w9 W)) (fun i _ => 256 - (intOf i).toNat)
          case atStart => exact ⟨0, by omega, rfl, HM0, HQ0⟩
          case round =>
            obtain ⟨k, hk, rfl, HR, HQ⟩ := hrel
            by_cases hlt : k < 256
            · have hs := Step.of HQ.out
              have FB_31 := Hd.mk (FB0.out.step hs)
              clear FB0
              clear hs
              have HP0_31 : Hd (∀ k, (fun k => k < wa.heap.size) k → (fun k => k < wa.heap.size) k) := ⟨fun k hk => hk⟩
              have t0 : decide ((k : Int) < 256) = true := by simp; omega
              have hwk : IntKind.i64.wrap ((k : Int) + 1) = (k : Int) + 1 := IntWalk.i64_in _ ⟨by omega, by omega⟩
              have HLT := Hd.mk hlt
              have FK_s : Hd (Held (fun k => k < wa.heap.size) wr (fun W => Kept (fun k => k < wa.heap.size) w9 W)) := ⟨fun W hW => HQ.out.trans hW⟩
              obtain ⟨hs3, hn3, he3⟩ := fS_root hlt
              have k0 : (0 : Int) ≤ (k : Int) := by omega
              obtain ⟨j, hj⟩ : ∃ j, k % 17 = j := ⟨_, rfl⟩
              have r1 : Int.tmod (k : Int) 17 = (j : Int) := by rw [Int.tmod_eq_emod_of_nonneg k0]; omega
              have r2 : (k : Int) % 17 = (j : Int) := by omega
              have r3 : IntKind.i64.wrap (j : Int) = (j : Int) := IntWalk.i64_in _ ⟨by omega, by omega⟩
              rw [hj] at hs3 hn3 he3
              have HRT := Hd.mk (And.intro hs3 (And.intro hn3 he3))
              clear hlt hk hj hs3 hn3 he3
              go_wp2_with fail
              refine (y_root HR.out (port := (k : Int)) (tw := (j : Int)) (r := 15#8) HRT.out.2.1 HRT.out.2.2 HRT.out.1).mono ?_
              rintro e w32 ⟨rfl, hm, hs⟩
              have HP33 : Hd (∀ k, (fun k => k < wa.heap.size) k → (fun k => k < wa.heap.size) k) := ⟨fun k hk => hs.more k (HP0_31.out k hk)⟩
              clear HP0_31
              have FB_33 := Hd.mk (FB_31.out.step hs)
              have FK_33 := Hd.mk (FK_s.out.step hs)
              have HM33 := Hd.mk hm
              clear FB_31 FK_s HR
              clear hs hm
              clear r1 r2 r3
              go_wp2_with fail
              go_roundw
              case rel => exact ⟨k + 1, by have := HLT.out; omega, by go_num, ⟨HM33.out.less HP33.out⟩, ⟨FK_33.out.now⟩⟩
              case measure => have := HLT.out; simp [intOf]; omega
            · have hs := Step.of HQ.out
              have FB_54 := Hd.mk (FB0.out.step hs)
              clear FB0
              clear hs
              have HP0_54 : Hd (∀ k, (fun k => k < wa.heap.size) k → (fun k => k < wa.heap.size) k) := ⟨fun k hk => hk⟩
              obtain rfl : k = 256 := by omega
              rw [show ((256 : Nat) : Int) = 256 from rfl]
              clear hlt hk
              go_wp2_with fail
              refine (y_root HR.out (port := 0) (tw := 0) (r := 15#8) fS_end.1.1 fS_end.1.2.1 fS_end.1.2.2).mono ?_
              rintro e w55 ⟨rfl, hm, hs⟩
              have FB_56 := Hd.mk (FB_54.out.step hs)
              have HM56 := Hd.mk hm
              clear FB_54 HR
              clear hs hm
              go_wp2_with fail
              refine (y_der HM56.out (s := 1) (tw := 0) (r := 1#8) (by decide) fS_end.2.1 fS_end.2.2.1 fS_end.2.2.2).mono ?_
              rintro e w57 ⟨rfl, hm, hs⟩
              have FB_58 := Hd.mk (FB_56.out.step hs)
              have HM58 := Hd.mk hm
              clear FB_56 HM56
              clear hs hm
              go_wp2_with fail
              refine (y_revoke HM58.out (s := 5) (l := [5]) (e := 0) (st' := takeS (fS 256) [5]) (by decide) fS_below.2 fS_below.1 (by unfold revokeS; rw [fS_below.2])).mono ?_
              rintro e w59 ⟨a59, c59, p59, rfl, hm, hf, hs⟩
              have FNl59 := Hd.mk hf
              clear hf
              have FB_60 := Hd.mk (FB_58.out.step hs)
              have HM60 := Hd.mk hm
              clear FB_58 HM58
              clear hs hm
              go_wp2_with fail
              refine (y_der HM60.out (s := 1) (tw := 0) (r := 1#8) (by decide) fS_der.1 fS_der.2 rfl).mono ?_
              rintro e w61 ⟨rfl, hm, hs⟩
              have FB_62 := Hd.mk (FB_60.out.step hs)
              have Fl_62 := Hd.mk (FNl59.out.step hs)
              have HM62 := Hd.mk hm
              clear FB_60 FNl59 HM60
              clear hs hm
              go_wp2_with fail
              obtain ⟨A63, hW⟩ : ∃ W, (w61.alloc (.cells #[.int .i64 5] 3)) = W := ⟨_, rfl⟩
              obtain ⟨p63, hm, hf, hs⟩ := lit_box HM62.out (.cells #[.int .i64 5] 3)
              rw [hW] at hm hf hs
              rw [hW]
              clear hW
              have FNq63 := Hd.mk (hf.imp fun W hW => srcI_box hW [5] rfl)
              clear hf
              have FB_64 := Hd.mk (FB_62.out.step hs)
              have Fl_64 := Hd.mk (Fl_62.out.step hs)
              have HM64 := Hd.mk hm
              clear FB_62 Fl_62 HM62
              clear hs hm
              refine (same_at (l := [5]) (m := [5]) (b := true) (by decide) (OwnE.src Fl_64.out.now) FNq63.out.now).mono ?_
              rintro e w65 ⟨rfl, hB⟩
              obtain ⟨hm, hs⟩ := HM64.out.below hB
              clear hB
              have FB_66 := Hd.mk (FB_64.out.step hs)
              have Fl_66 := Hd.mk (Fl_64.out.step hs)
              have Fq_66 := Hd.mk (FNq63.out.step hs)
              have HM66 := Hd.mk hm
              clear FB_64 Fl_64 FNq63 HM64
              clear hs hm
              clear Fl_66 Fq_66
              go_wp2_with fail
              have HBA := Hd.mk FB_66.out.now
              obtain ⟨wb, hwb⟩ : ∃ W, w65 = W := ⟨_, rfl⟩
              rw [hwb] at HBA ⊢
              clear hwb HM66 FB_66
              refine (new_any 100 wb (by decide)).mono ?_
              rintro e w9 ⟨M, rfl, hm, hB⟩
              have HM0 : Hd (TabAt w9 (fun k => k < wb.heap.size) M (gS 0)) := ⟨hm⟩
              have FB0 := Hd.mk (Held.below (HBA.out.trans (hB.mono HBA.out.size)) (pr := fun k => k < wb.heap.size) (fun k hk => Nat.lt_of_lt_of_le hk HBA.out.size))
              clear hm hB HBA
              go_wp2_with fail
              have HQ0 : Hd (Kept (fun k => k < wb.heap.size) w9 w9) := ⟨Kept.refl _ _⟩
              go_loopw [212] (fun i W => ∃ k : Nat, k ≤ 256 ∧ i = .int .i64 k ∧ Hd (TabAt W (fun k => k < wb.heap.size) M (gS k)) ∧ Hd (Kept (fun k => k < wb.heap.size) w9 W)) (fun i _ => 256 - (intOf i).toNat)
              case atStart => exact ⟨0, by omega, rfl, HM0, HQ0⟩
              case round =>
                obtain ⟨k, hk, rfl, HR, HQ⟩ := hrel
                by_cases hlt : k < 256
                · have hs := Step.of HQ.out
                  have FB_87 := Hd.mk (FB0.out.step hs)
                  clear FB0
                  clear hs
                  have HP0_87 : Hd (∀ k, (fun k => k < wb.heap.size) k → (fun k => k < wb.heap.size) k) := ⟨fun k hk => hk⟩
                  have t0 : decide ((k : Int) < 256) = true := by simp; omega
                  have hwk : IntKind.i64.wrap ((k : Int) + 1) = (k : Int) + 1 := IntWalk.i64_in _ ⟨by omega, by omega⟩
                  have HLT := Hd.mk hlt
                  have FK_s : Hd (Held (fun k => k < wb.heap.size) wr (fun W => Kept (fun k => k < wb.heap.size) w9 W)) := ⟨fun W hW => HQ.out.trans hW⟩
                  obtain ⟨hs3, hn3, he3⟩ := gS_root hlt
                  obtain ⟨hc3, hd3⟩ := gT_close k
                  have r3 : IntKind.i64.wrap (100 + (k : Int)) = 100 + (k : Int) := IntWalk.i64_in _ ⟨by omega, by omega⟩
                  have HRT := Hd.mk (And.intro hs3 (And.intro hn3 he3))
                  have HCT := Hd.mk (And.intro hc3 hd3)
                  clear hlt hk hs3 hn3 he3 hc3 hd3
                  go_wp2_with fail
                  refine (y_root HR.out (port := 1) (tw := 3) (r := 15#8) HRT.out.2.1 HRT.out.2.2 HRT.out.1).mono ?_
                  rintro e w88 ⟨rfl, hm, hs⟩
                  have HP89 : Hd (∀ k, (fun k => k < wb.heap.size) k → (fun k => k < wb.heap.size) k) := ⟨fun k hk => hs.more k (HP0_87.out k hk)⟩
                  clear HP0_87
                  have FB_89 := Hd.mk (FB_87.out.step hs)
                  have FK_89 := Hd.mk (FK_s.out.step hs)
                  have HM89 := Hd.mk hm
                  clear FB_87 FK_s HR
                  clear hs hm
                  go_wp2_with fail
                  refine (y_close HM89.out (p := 1) HCT.out.1 HCT.out.2).mono ?_
                  rintro e w90 ⟨a90, c90, p90, rfl, hm, hf, hs⟩
                  have FNc90 := Hd.mk hf
                  clear hf
                  have HP91 : Hd (∀ k, (fun k => k < wb.heap.size) k → p90 k) := ⟨fun k hk => hs.more k (HP89.out k hk)⟩
                  clear HP89
                  have FB_91 := Hd.mk (FB_89.out.step hs)
                  have FK_91 := Hd.mk (FK_89.out.step hs)
                  have HM91 := Hd.mk hm
                  clear FB_89 FK_89 HM89
                  clear hs hm
                  clear FNc90
                  rw [show [100 + (k : Int)].length = 1 from rfl]
                  clear r3
                  go_wp2_with fail
                  go_roundw
                  case rel => exact ⟨k + 1, by have := HLT.out; omega, by go_num, ⟨HM91.out.less HP91.out⟩, ⟨FK_91.out.now⟩⟩
                  case measure => have := HLT.out; simp [intOf]; omega
                · have hs := Step.of HQ.out
                  have FB_112 := Hd.mk (FB0.out.step hs)
                  clear FB0
                  clear hs
                  have HP0_112 : Hd (∀ k, (fun k => k < wb.heap.size) k → (fun k => k < wb.heap.size) k) := ⟨fun k hk => hk⟩
                  obtain rfl : k = 256 := by omega
                  rw [show ((256 : Nat) : Int) = 256 from rfl]
                  clear hlt hk
                  go_wp2_with fail
                  refine (y_root HR.out (port := 1) (tw := 3) (r := 15#8) gS_end.1.1 gS_end.1.2.1 gS_end.1.2.2).mono ?_
                  rintro e w113 ⟨rfl, hm, hs⟩
                  have FB_114 := Hd.mk (FB_112.out.step hs)
                  have HM114 := Hd.mk hm
                  clear FB_112 HR
                  clear hs hm
                  go_wp2_with fail
                  refine (y_root HM114.out (port := 1) (tw := 4) (r := 15#8) gS_end.2.1 gS_end.2.2 gS_four).mono ?_
                  rintro e w115 ⟨rfl, hm, hs⟩
                  have FB_116 := Hd.mk (FB_114.out.step hs)
                  have HM116 := Hd.mk hm
                  clear FB_114 HM114
                  clear hs hm
                  go_wp2_with fail
                  refine (y_der HM116.out (s := 356) (tw := 3) (r := 15#8) (by decide) gU_der.2.1 gU_der.1 gU_der.2.2).mono ?_
                  rintro e w117 ⟨rfl, hm, hs⟩
                  have FB_118 := Hd.mk (FB_116.out.step hs)
                  have HM118 := Hd.mk hm
                  clear FB_116 HM116
                  clear hs hm
                  go_wp2_with fail
                  refine (y_places HM118.out (who := 3) rfl).mono ?_
                  rintro e w119 ⟨a119, c119, p119, rfl, hm, hf, hs⟩
                  have FNp119 := Hd.mk hf
                  clear hf
                  have FB_120 := Hd.mk (FB_118.out.step hs)
                  have HM120 := Hd.mk hm
                  clear FB_118 HM118
                  clear hs hm
                  clear FNp119
                  rw [gU_places]
                  go_upto_region 51 with fail
                  have HBA := Hd.mk FB_120.out.now
                  obtain ⟨wc, hwc⟩ : ∃ W, w119 = W := ⟨_, rfl⟩
                  rw [hwc] at HBA ⊢
                  clear hwc HM120 FB_120
                  obtain ⟨w0, hw0⟩ : ∃ W, (wc.alloc (.cells #[.bool false, .int .i64 0, .map none, .slice none 0 0, .slice none 0 0, .slice none 0 0, .slice none 0 0, .slice none 0 0, .slice none 0 0, .slice none 0 0, .slice none 0 0, .slice none 0 0, .slice none 0 0, .slice none 0 0, .slice none 0 0, .slice none 0 0, .slice none 0 0, .slice none 0 0, .slice none 0 0, .slice none 0 0] 69)) = W := ⟨_, rfl⟩
                  have hz0 : w0.heap[wc.heap.size]? = some (.cells #[.bool false, .int .i64 0, .map none, .slice none 0 0, .slice none 0 0, .slice none 0 0, .slice none 0 0, .slice none 0 0, .slice none 0 0, .slice none 0 0, .slice none 0 0, .slice none 0 0, .slice none 0 0, .slice none 0 0, .slice none 0 0, .slice none 0 0, .slice none 0 0, .slice none 0 0, .slice none 0 0, .slice none 0 0] 69 (0, 0)) := by rw [← hw0]; exact heap_alloc_new _ _
                  have hB0 : Below wc.heap.size wc w0 := by rw [← hw0]; exact (Below.refl _ _).alloc (Nat.le_refl _) _
                  rw [hw0]
                  obtain ⟨Z, hZ⟩ : ∃ x, wc.heap.size = x := ⟨_, rfl⟩
                  rw [hZ] at hz0 ⊢
                  obtain ⟨w1b, hw1⟩ : ∃ W, (w0.alloc (.cells #[.pointer none, .pointer (some ⟨Z, 0, none⟩)] 24)) = W := ⟨_, rfl⟩
                  have hl1 : w1b.heap[w0.heap.size]? = some (.cells #[.pointer none, .pointer (some ⟨Z, 0, none⟩)] 24 (0, 0)) := by rw [← hw1]; exact heap_alloc_new _ _
                  have hB1 : Below w0.heap.size w0 w1b := by rw [← hw1]; exact (Below.refl _ _).alloc (Nat.le_refl _) _
                  rw [hw1]
                  have hLs : w0.heap.size = Z + 1 := by rw [← hw0, ← hZ]; simp
                  obtain ⟨Lb, hLb⟩ : ∃ x, Z + 1 = x := ⟨_, rfl⟩
                  have hz1 := (hB1.block Z (lt_heap hz0)).trans hz0
                  rw [hLs, hLb] at hl1
                  rw [hLb]
                  have HPV : Hd (∀ k, k < 2 → ∃ pv : Value, w1b.cell? ⟨Lb, k, none⟩ = some pv ∧ NoM w1b pv) := ⟨fun k hk => by
                    match k, hk with
                    | 0, _ => exact ⟨_, cells_cell hl1 0, .inl rfl⟩
                    | 1, _ => exact ⟨_, cells_cell hl1 1, .inr ⟨Z, rfl, lt_heap hz1, cells_cell hz1 0⟩⟩⟩
                  have HLL := Hd.mk (lt_heap hl1)
                  have HB1 : Hd (Below w.heap.size w w1b) := ⟨HBA.out.trans ((hB0.trans (hB1.mono hB0.size)).mono HBA.out.size)⟩
                  clear hw0 hz0 hB0 hZ hw1 hl1 hB1 hLb hz1 HBA hLs
                  go_loopw [274] (fun i W => ∃ k : Nat, k ≤ 2 ∧ i = .int .i64 k ∧ Hd (Below w1b.heap.size w1b W)) (fun i _ => 2 - (intOf i).toNat)
                  case atStart => exact ⟨0, by omega, rfl, ⟨Below.refl _ _⟩⟩
                  case round =>
                    obtain ⟨k, hk, rfl, HR⟩ := hrel
                    by_cases hlt : k < 2
                    · obtain ⟨pv, hc, hno⟩ := HPV.out k hlt
                      have v0 : wr.cell? ⟨Lb, k, none⟩ = some pv := (HR.out.cell (p := ⟨Lb, k, none⟩) HLL.out).trans hc
                      have HNO := Hd.mk (hno.below HR.out)
                      have k0 : (0 : Int) ≤ (k : Int) := by omega
                      have k1 : (k : Int) < 2 := by omega
                      have t0 : decide ((k : Int) < 2) = true := by simp; omega
                      have HWK : Hd (IntKind.i64.wrap ((k : Int) + 1) = (k : Int) + 1) := ⟨IntWalk.i64_in _ ⟨by omega, by omega⟩⟩
                      have HLT := Hd.mk hlt
                      clear hlt hk hc hno
                      go_wp2_with fail
                      refine (no_root HNO.out (-1) 0 0#8).mono ?_
                      rintro e wq ⟨rfl, rfl⟩
                      clear v0 k0 k1 t0
                      go_wp2_with fail
                      refine (no_der HNO.out 0 0 0#8).mono ?_
                      rintro e wd1 ⟨rfl, hB⟩
                      have HBr1 := Hd.mk (HR.out.trans (hB.mono HR.out.size))
                      have HNo1 := Hd.mk (HNO.out.below hB)
                      clear hB HNO
                      go_wp2_with fail
                      refine (no_revoke HNo1.out 0).mono ?_
                      rintro e wd2 ⟨rfl, hB⟩
                      have HBr2 := Hd.mk (HBr1.out.trans (hB.mono HBr1.out.size))
                      have HNo2 := Hd.mk (HNo1.out.below hB)
                      clear hB HNo1
                      go_wp2_with fail
                      refine (no_get HNo2.out 0).mono ?_
                      rintro e wd3 ⟨rfl, hB⟩
                      have HBr3 := Hd.mk (HBr2.out.trans (hB.mono HBr2.out.size))
                      have HNo3 := Hd.mk (HNo2.out.below hB)
                      clear hB HNo2
                      go_upto_region 57 with fail
                      obtain ⟨wd4, hN⟩ : ∃ W, (wd3.alloc (.cells #[.int .i64 0, .int .i64 0, .int .i64 0, .int .i64 0, h8 0#8] 34)) = W := ⟨_, rfl⟩
                      have hB : Below wd3.heap.size wd3 wd4 := by rw [← hN]; exact (Below.refl _ _).alloc (Nat.le_refl _) _
                      rw [hN]
                      clear hN
                      have HBr4 := Hd.mk (HBr3.out.trans (hB.mono HBr3.out.size))
                      have HNo4 := Hd.mk (HNo3.out.below hB)
                      clear hB HNo3
                      go_wp2_with fail
                      refine (no_place HNo4.out (-1) 0).mono ?_
                      rintro e wd5 ⟨rfl, hB⟩
                      have HBr5 := Hd.mk (HBr4.out.trans (hB.mono HBr4.out.size))
                      have HNo5 := Hd.mk (HNo4.out.below hB)
                      clear hB HNo4
                      go_upto_region 58 with fail
                      obtain ⟨wd6, hN⟩ : ∃ W, (wd5.alloc (.cells #[.int .i64 0, .int .i64 0, .int .i64 0, .int .i64 0, h8 0#8] 34)) = W := ⟨_, rfl⟩
                      have hB : Below wd5.heap.size wd5 wd6 := by rw [← hN]; exact (Below.refl _ _).alloc (Nat.le_refl _) _
                      rw [hN]
                      clear hN
                      have HBr6 := Hd.mk (HBr5.out.trans (hB.mono HBr5.out.size))
                      have HNo6 := Hd.mk (HNo5.out.below hB)
                      clear hB HNo5
                      go_wp2_with fail
                      refine (no_below HNo6.out 0).mono ?_
                      rintro e wd7 ⟨rfl, hB⟩
                      have HBr7 := Hd.mk (HBr6.out.trans (hB.mono HBr6.out.size))
                      have HNo7 := Hd.mk (HNo6.out.below hB)
                      clear hB HNo6
                      go_upto_region 60 with fail
                      obtain ⟨w6, hw6⟩ : ∃ W, (wd7.alloc (.cells #[.int .i64 1, .int .i64 1, .int .i64 1, .int .i64 1, .int .i64 1, .int .i64 1] 36)) = W := ⟨_, rfl⟩
                      have hl6 : w6.heap[wd7.heap.size]? = some (.cells #[.int .i64 1, .int .i64 1, .int .i64 1, .int .i64 1, .int .i64 1, .int .i64 1] 36 (0, 0)) := by rw [← hw6]; exact heap_alloc_new _ _
                      have hB : Below wd7.heap.size wd7 w6 := by rw [← hw6]; exact (Below.refl _ _).alloc (Nat.le_refl _) _
                      rw [hw6]
                      obtain ⟨Eb, hEb⟩ : ∃ x, wd7.heap.size = x := ⟨_, rfl⟩
                      rw [hEb] at hl6 ⊢
                      have HE6 : Hd (∀ j, j < 6 → w6.cell? ⟨Eb, j, none⟩ = some (.int .i64 1)) := ⟨fun j hj => by
                        rw [cells_cell hl6]
                        match j, hj with
                        | 0, _ => rfl
                        | 1, _ => rfl
                        | 2, _ => rfl
                        | 3, _ => rfl
                        | 4, _ => rfl
                        | 5, _ => rfl⟩
                      clear hw6 hl6 hEb
                      have HBr8 := Hd.mk (HBr7.out.trans (hB.mono HBr7.out.size))
                      have HNo8 := Hd.mk (HNo7.out.below hB)
                      clear hB HNo7
                      go_loopw [316] (fun i W => ∃ j : Nat, j ≤ 6 ∧ i = .int .i64 j ∧ W = w6) (fun i _ => 6 - (intOf i).toNat)
                      case atStart => exact ⟨0, by omega, rfl, rfl⟩
                      case round =>
                        obtain ⟨j, hj, rfl, hwj⟩ := hrel
                        subst hwj
                        by_cases hjt : j < 6
                        · have v1 := HE6.out j hjt
                          have j0 : (0 : Int) ≤ (j : Int) := by omega
                          have j1 : (j : Int) < 6 := by omega
                          have t1 : decide ((j : Int) < 6) = true := by simp; omega
                          have hwj : IntKind.i64.wrap ((j : Int) + 1) = (j : Int) + 1 := IntWalk.i64_in _ ⟨by omega, by omega⟩
                          have HJT := Hd.mk hjt
                          clear hjt hj
                          go_wp2_with fail
                          go_roundw
                          case rel => exact ⟨j + 1, by have := HJT.out; omega, by go_num, trivial⟩
                          case measure => have := HJT.out; simp [intOf]; omega
                        · obtain rfl : j = 6 := by omega
                          rw [show ((6 : Nat) : Int) = 6 from rfl]
                          clear hjt hj HE6
                          go_wp2_with fail
                          refine (no_close HNo8.out 0).mono ?_
                          rintro e wq ⟨rfl, rfl⟩
                          go_wp2_with fail
                          refine (no_places HNo8.out 0).mono ?_
                          rintro e wq ⟨rfl, rfl⟩
                          go_wp2_with fail
                          refine (no_all HNo8.out).mono ?_
                          rintro e wq ⟨rfl, rfl⟩
                          go_wp2_with fail
                          refine (no_next HNo8.out).mono ?_
                          rintro e wq ⟨rfl, rfl⟩
                          go_wp2_with fail
                          refine (no_len HNo8.out).mono ?_
                          rintro e wq ⟨rfl, rfl⟩
                          go_wp2_with fail
                          refine (no_copy HNo8.out).mono ?_
                          rintro e wq ⟨rfl, rfl⟩
                          have hwk := HWK.out
                          go_wp2_with fail
                          go_roundw
                          case rel => exact ⟨k + 1, by have := HLT.out; omega, by go_num, HBr8⟩
                          case measure => have := HLT.out; simp [intOf]; omega
                    · obtain rfl : k = 2 := by omega
                      rw [show ((2 : Nat) : Int) = 2 from rfl]
                      have HBF : Hd (Below w.heap.size w wr) := ⟨HB1.out.trans (HR.out.mono HB1.out.size)⟩
                      clear hlt hk HR HPV
                      go_wp2_with fail
                      refine (awake_any _).mono ?_
                      rintro e w9 ⟨rfl, hB9⟩
                      have HB9 := Hd.mk (HBF.out.trans (hB9.mono HBF.out.size))
                      clear hB9
                      go_wp2_with fail
                      go_ret
                      exact ⟨rfl, HB9.out⟩
end Go.Proofs.Ytinagiofolmhbaa
