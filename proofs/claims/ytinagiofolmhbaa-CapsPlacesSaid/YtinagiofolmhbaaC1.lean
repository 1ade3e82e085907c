/- Made. -/
import Derived.Test.YtinagiofolmhbaaB9
import Derived.Test.YtinagiofolmhbaaPL2
namespace Go.Proofs.Ytinagiofolmhbaa
open Go.RowKit
set_option linter.unusedVariables false
set_option linter.unusedSimpArgs false


theorem h8_ne {x y : BitVec 8} (h : ¬ x = y) : (x == y) = false := by simpa using h
theorem h8_eq {x y : BitVec 8} (h : x = y) : (x == y) = true := by simpa using h
set_option maxRecDepth 100000 in
set_option maxHeartbeats 4000000 in
theorem made_any {v : Value} {ls : List Sm} {w : World} (h : SrcN sL w v ls) :
    Calls Try.prog 12 #[v] w fun e w' => ∃ M, e = .returned (.tuple #[.pointer (some ⟨M, 0, none⟩), .bool true]) ∧ TabAt w' (fun k => k < w.heap.size) M (madeS ls) ∧ Below w.heap.size w w' := by
  have hsm := h.small
  obtain ⟨a, c, rfl⟩ := h.shape
  have hcap : ls.length ≤ c := by
    rcases h with ⟨rfl, a2, c2, hv, ha⟩ | ⟨b, off, c2, hv, h1, h2, _⟩
    · simp only [Value.slice.injEq] at hv
      simp
    · simp only [Value.slice.injEq] at hv
      omega
  have HL := Hd.mk h
  have HC := Hd.mk hcap
  obtain ⟨n, hn⟩ : ∃ n, ls.length = n := ⟨_, rfl⟩
  have HN := Hd.mk hn
  rw [hn] at hsm hcap ⊢
  clear h hn
  by_cases h60 : n ≤ 60
  · have HV : Hd (madeS ls = makeK ls n) := ⟨by rw [makeK_all ls (by rw [HN.out]; exact h60), HN.out]⟩
    rw [HV.out]
    clear HV
    go_enter Try.func12, Try.ntmps12
    go_wp2_with fail
    refine (new_any 100 w (by decide)).mono ?_
    rintro e w1 ⟨M, rfl, hm, hB⟩
    have HM0 := Hd.mk hm
    have HB0 := Hd.mk hB
    clear hm hB
    go_wp2_with fail
    rw [show min (n : Int) 60 = (n : Int) from by omega, show max ((n : Int) : Int) 0 = (n : Int) from by omega, show Int.toNat (n : Int) = n from by omega]
    go_loopw [32] (fun i W => ∃ k : Nat, k ≤ n ∧ i = .int .i64 k ∧ Hd (TabAt W (fun k => k < w.heap.size) M (makeK ls k)) ∧ Hd (Below w.heap.size w W)) (fun i _ => n - (intOf i).toNat)
    case atStart => exact ⟨0, by omega, rfl, HM0, HB0⟩
    case round =>
      obtain ⟨k, hk, rfl, HR, HB⟩ := hrel
      by_cases hlt : k < n
      · have hkl : k < ls.length := by rw [HN.out]; omega
        have HSH := Hd.mk (makeK_sh ls k (by omega))
        have HSC := Hd.mk (makeK_succ ls k hkl)
        obtain ⟨x, hx⟩ : ∃ x, ls[k] = x := ⟨_, rfl⟩
        obtain ⟨b, off, rfl, hb, hc⟩ := (HL.out.below HB.out).at k hkl
        rw [hx] at hc HSC
        have h0 : wr.cell? ⟨b, off + k * 4, none⟩ = some (h8 x.a) := hc 0 _ rfl
        have h1 : wr.cell? ⟨b, off + k * 4 + 1, none⟩ = some (h8 x.b) := hc 1 _ rfl
        have h2 : wr.cell? ⟨b, off + k * 4 + 2, none⟩ = some (h8 x.c) := hc 2 _ rfl
        have h3 : wr.cell? ⟨b, off + k * 4 + 3, none⟩ = some (h8 x.d) := hc 3 _ rfl
        obtain ⟨st, hst⟩ : ∃ st, makeK ls k = st := ⟨_, rfl⟩
        rw [hst] at HR HSH HSC
        obtain ⟨xa, hxa⟩ : ∃ y, x.a = y := ⟨_, rfl⟩
        obtain ⟨xb, hxb⟩ : ∃ y, x.b = y := ⟨_, rfl⟩
        obtain ⟨xc, hxc⟩ : ∃ y, x.c = y := ⟨_, rfl⟩
        obtain ⟨xd, hxd⟩ : ∃ y, x.d = y := ⟨_, rfl⟩
        rw [hxa] at h0
        rw [hxb] at h1
        rw [hxc] at h2
        rw [hxd] at h3
        have HX : Hd (x = ⟨xa, xb, xc, xd⟩) := ⟨by cases x; simp_all⟩
        have HLT := Hd.mk (show k < 60 by omega)
        have HLM := Hd.mk hlt
        have HKB := Hd.mk hk
        have k0 : (0 : Int) ≤ (k : Int) := by omega
        have k1 : (k : Int) < (n : Int) := by omega
        have k2 : (k : Int) < (n : Int) := by omega
        have FB0 : Hd (Held (fun k => k < w.heap.size) wr (fun W => Below w.heap.size w W)) := ⟨fun W hW => HB.out.trans (hW.below fun _ h => h)⟩
        have HP0 : Hd (∀ k, k < w.heap.size → (fun k => k < w.heap.size) k) := ⟨fun _ h => h⟩
        clear hc hx hst hxa hxb hxc hxd hkl hb hlt hk
        go_upto_region 7 with fail
        obtain ⟨A1, hW⟩ : ∃ W, (wr.alloc (.cells #[h8 xa, h8 xb, h8 xc, h8 xd] 58)) = W := ⟨_, rfl⟩
        obtain ⟨p1, hm, hf, hs⟩ := lit_box HR.out (.cells #[h8 xa, h8 xb, h8 xc, h8 xd] 58)
        rw [hW] at hm hf hs
        rw [hW]
        clear hW
        have FNs1 := Hd.mk hf
        clear hf
        have HP2 : Hd (∀ k, k < w.heap.size → p1 k) := ⟨fun k hk => hs.more k (HP0.out k hk)⟩
        clear HP0
        have FB_2 := Hd.mk (FB0.out.step hs)
        have HM2 := Hd.mk hm
        clear FB0 HR
        clear hs hm
        clear h0 h1 h2 h3
        go_wp2_with fail
        refine (y_all HM2.out rfl).mono ?_
        rintro e w3 ⟨a3, c3, p3, rfl, hm, hf, hs⟩
        have FNh3 := Hd.mk hf
        clear hf
        have HP4 : Hd (∀ k, k < w.heap.size → p3 k) := ⟨fun k hk => hs.more k (HP2.out k hk)⟩
        clear HP2
        have FB_4 := Hd.mk (FB_2.out.step hs)
        have Fs_4 := Hd.mk (FNs1.out.step hs)
        have HM4 := Hd.mk hm
        clear FB_2 FNs1 HM2
        clear hs hm
        obtain ⟨nl, hnl⟩ : ∃ n, (liveS st).length = n := ⟨_, rfl⟩
        rw [hnl]
        have HNLl := Hd.mk hnl
        clear hnl
        have hcx := Fs_4.out.now
        have e0 := (cells_cell hcx 0).trans (show _ = some (h8 xa) from rfl)
        have e1 := (cells_cell hcx 1).trans (show _ = some (h8 xb) from rfl)
        have e2 := (cells_cell hcx 2).trans (show _ = some (h8 xc) from rfl)
        have e3 := (cells_cell hcx 3).trans (show _ = some (h8 xd) from rfl)
        clear hcx
        by_cases hz : nl = 0
        · have HNL : Hd ((liveS st).length = 0) := ⟨by rw [HNLl.out]; exact hz⟩
          have d0 : ((nl : Int) == 0) = true := by simp; omega
          have d00 : (nl : Int) = 0 := by omega
          clear hz
          have hE : rootE st (n8 (xb % 4#8)) (n8 (xc % 5#8)) ((xd % 16#8) ||| 4#8) = 0 := root_made HSH.out HLT.out ⟨xa, xb, xc, xd⟩
          have hS : rootS st (n8 (xb % 4#8)) (n8 (xc % 5#8)) ((xd % 16#8) ||| 4#8) = makeK ls (k + 1) := by
            rw [HSC.out, HX.out]
            unfold stepS
            rw [if_pos]
            first | exact .inl HNL.out | exact .inr HA.out
          have HC_ := Hd.mk (y_root HM4.out (n := rootN st (n8 (xb % 4#8)) (n8 (xc % 5#8)) ((xd % 16#8) ||| 4#8)) rfl hE hS)
          generalize rootN st (n8 (xb % 4#8)) (n8 (xc % 5#8)) ((xd % 16#8) ||| 4#8) = nv at HC_
          clear hE hS
          go_wp2_with fail
          refine HC_.out.mono ?_
          rintro e w5 ⟨rfl, hm, hs⟩
          clear HC_ e0 e1 e2 e3
          have HP6 : Hd (∀ k, k < w.heap.size → p3 k) := ⟨fun k hk => hs.more k (HP4.out k hk)⟩
          clear HP4
          have FB_6 := Hd.mk (FB_4.out.step hs)
          have Fs_6 := Hd.mk (Fs_4.out.step hs)
          have Fh_6 := Hd.mk (FNh3.out.step hs)
          have HM6 := Hd.mk hm
          clear FB_4 Fs_4 FNh3 HM4
          clear hs hm
          go_wp2_with fail
          go_roundw
          case rel => exact ⟨k + 1, by have := HLM.out; omega, by go_num, ⟨TabAt.less HM6.out HP6.out⟩, ⟨FB_6.out.now⟩⟩
          case measure => have := HLM.out; simp [intOf]; omega
        · have d0 : ((nl : Int) == 0) = false := by simp; omega
          have d00 : ¬ (nl : Int) = 0 := by omega
          have HZ := Hd.mk hz
          clear hz
          by_cases ha : xa % 8#8 = 0#8
          · have HA := Hd.mk ha
            have d1 : (xa % 8#8 == 0#8) = true := by simpa using ha
            clear ha
            have hE : rootE st (n8 (xb % 4#8)) (n8 (xc % 5#8)) ((xd % 16#8) ||| 4#8) = 0 := root_made HSH.out HLT.out ⟨xa, xb, xc, xd⟩
            have hS : rootS st (n8 (xb % 4#8)) (n8 (xc % 5#8)) ((xd % 16#8) ||| 4#8) = makeK ls (k + 1) := by
              rw [HSC.out, HX.out]
              unfold stepS
              rw [if_pos]
              first | exact .inl HNL.out | exact .inr HA.out
            have HC_ := Hd.mk (y_root HM4.out (n := rootN st (n8 (xb % 4#8)) (n8 (xc % 5#8)) ((xd % 16#8) ||| 4#8)) rfl hE hS)
            generalize rootN st (n8 (xb % 4#8)) (n8 (xc % 5#8)) ((xd % 16#8) ||| 4#8) = nv at HC_
            clear hE hS
            go_wp2_with fail
            refine HC_.out.mono ?_
            rintro e w7 ⟨rfl, hm, hs⟩
            clear HC_ e0 e1 e2 e3
            have HP8 : Hd (∀ k, k < w.heap.size → p3 k) := ⟨fun k hk => hs.more k (HP4.out k hk)⟩
            clear HP4
            have FB_8 := Hd.mk (FB_4.out.step hs)
            have Fs_8 := Hd.mk (Fs_4.out.step hs)
            have Fh_8 := Hd.mk (FNh3.out.step hs)
            have HM8 := Hd.mk hm
            clear FB_4 Fs_4 FNh3 HM4
            clear hs hm
            go_wp2_with fail
            go_roundw
            case rel => exact ⟨k + 1, by have := HLM.out; omega, by go_num, ⟨TabAt.less HM8.out HP8.out⟩, ⟨FB_8.out.now⟩⟩
            case measure => have := HLM.out; simp [intOf]; omega
          · have d1 : (xa % 8#8 == 0#8) = false := by simpa using ha
            have HA := Hd.mk ha
            clear ha
            obtain ⟨hjl, hpk⟩ := pick_live (l := liveS st) (by rw [HNLl.out]; exact HZ.out) xb
            obtain ⟨j, hj⟩ : ∃ j, xb.toNat % (liveS st).length = j := ⟨_, rfl⟩
            have hjn : xb.toNat % nl = j := by rw [← hj, HNLl.out]
            have hjl2 : j < (liveS st).length := by rw [← hj]; exact hjl
            have hpk2 : pickL (liveS st) xb = (liveS st)[j] := by rw [hpk]; simp only [hj]
            obtain ⟨⟨hs, hp, ht, ho, hr⟩, hh⟩ : ∃ x, (liveS st)[j] = x := ⟨_, rfl⟩
            rw [hh] at hpk2
            have hmem : (⟨hs, hp, ht, ho, hr⟩ : Hn) ∈ liveS st := by rw [← hh]; exact List.getElem_mem _
            have HPK := Hd.mk hpk2
            have HMEM := Hd.mk hmem
            obtain ⟨b2, off2, rfl, _, hc2⟩ := (OwnN.src FNh3.out.now).at j hjl2
            rw [hh] at hc2
            have x0 : w3.cell? ⟨b2, off2 + j * 5, none⟩ = some (.int .i64 hs) := hc2 0 _ rfl
            have x1 : w3.cell? ⟨b2, off2 + j * 5 + 1, none⟩ = some (.int .i64 hp) := hc2 1 _ rfl
            have x2 : w3.cell? ⟨b2, off2 + j * 5 + 2, none⟩ = some (.int .i64 ht) := hc2 2 _ rfl
            have x3 : w3.cell? ⟨b2, off2 + j * 5 + 3, none⟩ = some (.int .i64 ho) := hc2 3 _ rfl
            have x4 : w3.cell? ⟨b2, off2 + j * 5 + 4, none⟩ = some (h8 hr) := hc2 4 _ rfl
            have r0 : (0 : Int) ≤ n8 xb := by unfold n8; omega
            have r1 : n8 xb % (nl : Int) = (j : Int) := by unfold n8; omega
            have r2 : Int.tmod (n8 xb) (nl : Int) = (j : Int) := by rw [Int.tmod_eq_emod_of_nonneg r0]; exact r1
            have hj3 : j ≤ 255 := by
              have h1 := xb.isLt
              have h2 := Nat.mod_le xb.toNat nl
              omega
            have r3 : IntKind.i64.wrap (j : Int) = (j : Int) := IntWalk.i64_in _ ⟨by omega, by omega⟩
            have r4 : (0 : Int) ≤ (j : Int) := by omega
            have r5 : (j : Int) < (nl : Int) := by have := HNLl.out; omega
            have HJB := Hd.mk (show -9223372036854775808 ≤ hs ∧ hs ≤ 9223372036854775807 from by
              have h1 := HM4.out.ok.lo _ (live_mem.1 hmem)
              have h2 := HM4.out.ok.n2
              simp only at h1
              omega)
            clear hj3 hjl hpk hj hjn hjl2 hpk2 hh hmem hc2 r0 r1
            go_upto_region 13 with fail
            clear FNh3
            obtain ⟨A9, hW⟩ : ∃ W, (w3.alloc (.cells #[.int .i64 hs, .int .i64 hp, .int .i64 ht, .int .i64 ho, h8 hr] 34)) = W := ⟨_, rfl⟩
            obtain ⟨p9, hm, hf, hs⟩ := lit_box HM4.out (.cells #[.int .i64 hs, .int .i64 hp, .int .i64 ht, .int .i64 ho, h8 hr] 34)
            rw [hW] at hm hf hs
            rw [hW]
            clear hW
            have FNx9 := Hd.mk hf
            clear hf
            have HP10 : Hd (∀ k, k < w.heap.size → p9 k) := ⟨fun k hk => hs.more k (HP4.out k hk)⟩
            clear HP4
            have FB_10 := Hd.mk (FB_4.out.step hs)
            have Fs_10 := Hd.mk (Fs_4.out.step hs)
            have HM10 := Hd.mk hm
            clear FB_4 Fs_4 HM4
            clear hs hm
            clear e0 e1 e2 e3 x0 x1 x2 x3 x4 r2 r3 r4 r5 d00
            have hcx := Fs_10.out.now
            have e0 := (cells_cell hcx 0).trans (show _ = some (h8 xa) from rfl)
            have e1 := (cells_cell hcx 1).trans (show _ = some (h8 xb) from rfl)
            have e2 := (cells_cell hcx 2).trans (show _ = some (h8 xc) from rfl)
            have e3 := (cells_cell hcx 3).trans (show _ = some (h8 xd) from rfl)
            clear hcx
            have hcx := FNx9.out.now
            have x0 := (cells_cell hcx 0).trans (show _ = some (Value.int .i64 hs) from rfl)
            have x1 := (cells_cell hcx 1).trans (show _ = some (Value.int .i64 hp) from rfl)
            have x2 := (cells_cell hcx 2).trans (show _ = some (Value.int .i64 ht) from rfl)
            have x3 := (cells_cell hcx 3).trans (show _ = some (Value.int .i64 ho) from rfl)
            have x4 := (cells_cell hcx 4).trans (show _ = some (h8 hr) from rfl)
            clear hcx
            by_cases h7 : xa % 8#8 = 7#8
            · have d7 : (xa % 8#8 == 7#8) = true := by simpa using h7
              have hE : getE st hs = 0 := (getE_live HSH.out.ok HMEM.out).1
              have hS : revokeS st hs = makeK ls (k + 1) := by
                rw [HSC.out, HX.out]
                unfold stepS
                rw [if_neg (by rintro (h | h); exact HZ.out (by rw [← HNLl.out]; exact h); exact HA.out h), if_pos h7, HPK.out]
              have HC_ := Hd.mk (y_revoke HM10.out HJB.out (l := belowS st hs) rfl hE hS)
              clear hE hS h7
              go_wp2_with fail
              refine HC_.out.mono ?_
              rintro e w11 ⟨a11, c11, p11, rfl, hm, hf, hs2⟩
              clear HC_ e0 e1 e2 e3 x0 x1 x2 x3 x4 hf
              have HP12 : Hd (∀ k, k < w.heap.size → p11 k) := ⟨fun k hk => hs2.more k (HP10.out k hk)⟩
              clear HP10
              have FB_12 := Hd.mk (FB_10.out.step hs2)
              have Fs_12 := Hd.mk (Fs_10.out.step hs2)
              have Fx_12 := Hd.mk (FNx9.out.step hs2)
              have HM12 := Hd.mk hm
              clear FB_10 Fs_10 FNx9 HM10
              clear hs2 hm
              go_wp2_with fail
              go_roundw
              case rel => exact ⟨k + 1, by have := HLM.out; omega, by go_num, ⟨TabAt.less HM12.out HP12.out⟩, ⟨FB_12.out.now⟩⟩
              case measure => have := HLM.out; simp [intOf]; omega
            · have d7 : (xa % 8#8 == 7#8) = false := by simpa using h7
              obtain ⟨hE, hN⟩ := der_made HSH.out HLT.out HMEM.out xc xd
              simp only at hE hN
              have hS : derS st hs (n8 (xc % 5#8)) (xd &&& hr) = makeK ls (k + 1) := by
                rw [HSC.out, HX.out]
                unfold stepS
                rw [if_neg (by rintro (h | h); exact HZ.out (by rw [← HNLl.out]; exact h); exact HA.out h), if_neg h7, HPK.out]
              clear h7
              by_cases hg : hr &&& 4#8 = 0#8
              · rw [if_pos hg] at hE
                have HC_ := Hd.mk (y_der HM10.out HJB.out (hN hg) hE hS)
                have d8 : (hr &&& 4#8 == 0#8) = true := by simpa using hg
                have d9 : (hr &&& 4#8 != 0#8) = false := by simpa using hg
                clear hE hS hN hg
                go_wp2_with fail
                refine HC_.out.mono ?_
                rintro e w13 ⟨rfl, hm, hs2⟩
                clear HC_ e0 e1 e2 e3 x0 x1 x2 x3 x4
                have HP14 : Hd (∀ k, k < w.heap.size → p9 k) := ⟨fun k hk => hs2.more k (HP10.out k hk)⟩
                clear HP10
                have FB_14 := Hd.mk (FB_10.out.step hs2)
                have Fs_14 := Hd.mk (Fs_10.out.step hs2)
                have Fx_14 := Hd.mk (FNx9.out.step hs2)
                have HM14 := Hd.mk hm
                clear FB_10 Fs_10 FNx9 HM10
                clear hs2 hm
                have hcx := Fx_14.out.now
                have x0 := (cells_cell hcx 0).trans (show _ = some (Value.int .i64 hs) from rfl)
                have x1 := (cells_cell hcx 1).trans (show _ = some (Value.int .i64 hp) from rfl)
                have x2 := (cells_cell hcx 2).trans (show _ = some (Value.int .i64 ht) from rfl)
                have x3 := (cells_cell hcx 3).trans (show _ = some (Value.int .i64 ho) from rfl)
                have x4 := (cells_cell hcx 4).trans (show _ = some (h8 hr) from rfl)
                clear hcx
                go_wp2_with fail
                go_roundw
                case rel => exact ⟨k + 1, by have := HLM.out; omega, by go_num, ⟨TabAt.less HM14.out HP14.out⟩, ⟨FB_14.out.now⟩⟩
                case measure => have := HLM.out; simp [intOf]; omega
              · rw [if_neg hg] at hE
                have HC_ := Hd.mk (y_der HM10.out HJB.out (n := derN st hs (n8 (xc % 5#8)) (xd &&& hr)) rfl hE hS)
                generalize derN st hs (n8 (xc % 5#8)) (xd &&& hr) = nv at HC_ hN
                have d8 : (hr &&& 4#8 == 0#8) = false := by simpa using hg
                have d9 : (hr &&& 4#8 != 0#8) = true := by simpa using hg
                clear hE hS hN hg
                go_wp2_with fail
                refine HC_.out.mono ?_
                rintro e w15 ⟨rfl, hm, hs2⟩
                clear HC_ e0 e1 e2 e3 x0 x1 x2 x3 x4
                have HP16 : Hd (∀ k, k < w.heap.size → p9 k) := ⟨fun k hk => hs2.more k (HP10.out k hk)⟩
                clear HP10
                have FB_16 := Hd.mk (FB_10.out.step hs2)
                have Fs_16 := Hd.mk (Fs_10.out.step hs2)
                have Fx_16 := Hd.mk (FNx9.out.step hs2)
                have HM16 := Hd.mk hm
                clear FB_10 Fs_10 FNx9 HM10
                clear hs2 hm
                have hcx := Fx_16.out.now
                have x0 := (cells_cell hcx 0).trans (show _ = some (Value.int .i64 hs) from rfl)
                have x1 := (cells_cell hcx 1).trans (show _ = some (Value.int .i64 hp) from rfl)
                have x2 := (cells_cell hcx 2).trans (show _ = some (Value.int .i64 ht) from rfl)
                have x3 := (cells_cell hcx 3).trans (show _ = some (Value.int .i64 ho) from rfl)
                have x4 := (cells_cell hcx 4).trans (show _ = some (h8 hr) from rfl)
                clear hcx
                go_wp2_with fail
                go_roundw
                case rel => exact ⟨k + 1, by have := HLM.out; omega, by go_num, ⟨TabAt.less HM16.out HP16.out⟩, ⟨FB_16.out.now⟩⟩
                case measure => have := HLM.out; simp [intOf]; omega
      · obtain rfl : k = n := by omega
        clear hlt hk
        go_wp2_with fail
        refine bodyPost_ret (results_tmp2 Try.results12 _ _ _) rfl ?_
        exact ⟨M, rfl, HR.out, HB.out⟩
  · have i1 : (60 : Int) ≤ (c : Int) := by omega
    have i2 : (60 : Int) ≤ (n : Int) := by omega
    go_enter Try.func12, Try.ntmps12
    go_wp2_with fail
    refine (new_any 100 w (by decide)).mono ?_
    rintro e w1 ⟨M, rfl, hm, hB⟩
    have HM0 := Hd.mk hm
    have HB0 := Hd.mk hB
    clear hm hB
    go_wp2_with fail
    rw [show min (n : Int) 60 = 60 from by omega, show max (60 : Int) 0 = 60 from by omega, show Int.toNat 60 = 60 from by omega]
    go_loopw [32] (fun i W => ∃ k : Nat, k ≤ 60 ∧ i = .int .i64 k ∧ Hd (TabAt W (fun k => k < w.heap.size) M (makeK ls k)) ∧ Hd (Below w.heap.size w W)) (fun i _ => 60 - (intOf i).toNat)
    case atStart => exact ⟨0, by omega, rfl, HM0, HB0⟩
    case round =>
      obtain ⟨k, hk, rfl, HR, HB⟩ := hrel
      by_cases hlt : k < 60
      · have hkl : k < ls.length := by rw [HN.out]; omega
        have HSH := Hd.mk (makeK_sh ls k (by omega))
        have HSC := Hd.mk (makeK_succ ls k hkl)
        obtain ⟨x, hx⟩ : ∃ x, ls[k] = x := ⟨_, rfl⟩
        obtain ⟨b, off, rfl, hb, hc⟩ := (HL.out.below HB.out).at k hkl
        rw [hx] at hc HSC
        have h0 : wr.cell? ⟨b, off + k * 4, none⟩ = some (h8 x.a) := hc 0 _ rfl
        have h1 : wr.cell? ⟨b, off + k * 4 + 1, none⟩ = some (h8 x.b) := hc 1 _ rfl
        have h2 : wr.cell? ⟨b, off + k * 4 + 2, none⟩ = some (h8 x.c) := hc 2 _ rfl
        have h3 : wr.cell? ⟨b, off + k * 4 + 3, none⟩ = some (h8 x.d) := hc 3 _ rfl
        obtain ⟨st, hst⟩ : ∃ st, makeK ls k = st := ⟨_, rfl⟩
        rw [hst] at HR HSH HSC
        obtain ⟨xa, hxa⟩ : ∃ y, x.a = y := ⟨_, rfl⟩
        obtain ⟨xb, hxb⟩ : ∃ y, x.b = y := ⟨_, rfl⟩
        obtain ⟨xc, hxc⟩ : ∃ y, x.c = y := ⟨_, rfl⟩
        obtain ⟨xd, hxd⟩ : ∃ y, x.d = y := ⟨_, rfl⟩
        rw [hxa] at h0
        rw [hxb] at h1
        rw [hxc] at h2
        rw [hxd] at h3
        have HX : Hd (x = ⟨xa, xb, xc, xd⟩) := ⟨by cases x; simp_all⟩
        have HLT := Hd.mk (show k < 60 by omega)
        have HLM := Hd.mk hlt
        have HKB := Hd.mk hk
        have k0 : (0 : Int) ≤ (k : Int) := by omega
        have k1 : (k : Int) < 60 := by omega
        have k2 : (k : Int) < (n : Int) := by omega
        have FB0 : Hd (Held (fun k => k < w.heap.size) wr (fun W => Below w.heap.size w W)) := ⟨fun W hW => HB.out.trans (hW.below fun _ h => h)⟩
        have HP0 : Hd (∀ k, k < w.heap.size → (fun k => k < w.heap.size) k) := ⟨fun _ h => h⟩
        clear hc hx hst hxa hxb hxc hxd hkl hb hlt hk
        go_upto_region 7 with fail
        obtain ⟨A1, hW⟩ : ∃ W, (wr.alloc (.cells #[h8 xa, h8 xb, h8 xc, h8 xd] 58)) = W := ⟨_, rfl⟩
        obtain ⟨p1, hm, hf, hs⟩ := lit_box HR.out (.cells #[h8 xa, h8 xb, h8 xc, h8 xd] 58)
        rw [hW] at hm hf hs
        rw [hW]
        clear hW
        have FNs1 := Hd.mk hf
        clear hf
        have HP2 : Hd (∀ k, k < w.heap.size → p1 k) := ⟨fun k hk => hs.more k (HP0.out k hk)⟩
        clear HP0
        have FB_2 := Hd.mk (FB0.out.step hs)
        have HM2 := Hd.mk hm
        clear FB0 HR
        clear hs hm
        clear h0 h1 h2 h3
        go_wp2_with fail
        refine (y_all HM2.out rfl).mono ?_
        rintro e w3 ⟨a3, c3, p3, rfl, hm, hf, hs⟩
        have FNh3 := Hd.mk hf
        clear hf
        have HP4 : Hd (∀ k, k < w.heap.size → p3 k) := ⟨fun k hk => hs.more k (HP2.out k hk)⟩
        clear HP2
        have FB_4 := Hd.mk (FB_2.out.step hs)
        have Fs_4 := Hd.mk (FNs1.out.step hs)
        have HM4 := Hd.mk hm
        clear FB_2 FNs1 HM2
        clear hs hm
        obtain ⟨nl, hnl⟩ : ∃ n, (liveS st).length = n := ⟨_, rfl⟩
        rw [hnl]
        have HNLl := Hd.mk hnl
        clear hnl
        have hcx := Fs_4.out.now
        have e0 := (cells_cell hcx 0).trans (show _ = some (h8 xa) from rfl)
        have e1 := (cells_cell hcx 1).trans (show _ = some (h8 xb) from rfl)
        have e2 := (cells_cell hcx 2).trans (show _ = some (h8 xc) from rfl)
        have e3 := (cells_cell hcx 3).trans (show _ = some (h8 xd) from rfl)
        clear hcx
        by_cases hz : nl = 0
        · have HNL : Hd ((liveS st).length = 0) := ⟨by rw [HNLl.out]; exact hz⟩
          have d0 : ((nl : Int) == 0) = true := by simp; omega
          have d00 : (nl : Int) = 0 := by omega
          clear hz
          have hE : rootE st (n8 (xb % 4#8)) (n8 (xc % 5#8)) ((xd % 16#8) ||| 4#8) = 0 := root_made HSH.out HLT.out ⟨xa, xb, xc, xd⟩
          have hS : rootS st (n8 (xb % 4#8)) (n8 (xc % 5#8)) ((xd % 16#8) ||| 4#8) = makeK ls (k + 1) := by
            rw [HSC.out, HX.out]
            unfold stepS
            rw [if_pos]
            first | exact .inl HNL.out | exact .inr HA.out
          have HC_ := Hd.mk (y_root HM4.out (n := rootN st (n8 (xb % 4#8)) (n8 (xc % 5#8)) ((xd % 16#8) ||| 4#8)) rfl hE hS)
          generalize rootN st (n8 (xb % 4#8)) (n8 (xc % 5#8)) ((xd % 16#8) ||| 4#8) = nv at HC_
          clear hE hS
          go_wp2_with fail
          refine HC_.out.mono ?_
          rintro e w5 ⟨rfl, hm, hs⟩
          clear HC_ e0 e1 e2 e3
          have HP6 : Hd (∀ k, k < w.heap.size → p3 k) := ⟨fun k hk => hs.more k (HP4.out k hk)⟩
          clear HP4
          have FB_6 := Hd.mk (FB_4.out.step hs)
          have Fs_6 := Hd.mk (Fs_4.out.step hs)
          have Fh_6 := Hd.mk (FNh3.out.step hs)
          have HM6 := Hd.mk hm
          clear FB_4 Fs_4 FNh3 HM4
          clear hs hm
          go_wp2_with fail
          go_roundw
          case rel => exact ⟨k + 1, by have := HLM.out; omega, by go_num, ⟨TabAt.less HM6.out HP6.out⟩, ⟨FB_6.out.now⟩⟩
          case measure => have := HLM.out; simp [intOf]; omega
        · have d0 : ((nl : Int) == 0) = false := by simp; omega
          have d00 : ¬ (nl : Int) = 0 := by omega
          have HZ := Hd.mk hz
          clear hz
          by_cases ha : xa % 8#8 = 0#8
          · have HA := Hd.mk ha
            have d1 : (xa % 8#8 == 0#8) = true := by simpa using ha
            clear ha
            have hE : rootE st (n8 (xb % 4#8)) (n8 (xc % 5#8)) ((xd % 16#8) ||| 4#8) = 0 := root_made HSH.out HLT.out ⟨xa, xb, xc, xd⟩
            have hS : rootS st (n8 (xb % 4#8)) (n8 (xc % 5#8)) ((xd % 16#8) ||| 4#8) = makeK ls (k + 1) := by
              rw [HSC.out, HX.out]
              unfold stepS
              rw [if_pos]
              first | exact .inl HNL.out | exact .inr HA.out
            have HC_ := Hd.mk (y_root HM4.out (n := rootN st (n8 (xb % 4#8)) (n8 (xc % 5#8)) ((xd % 16#8) ||| 4#8)) rfl hE hS)
            generalize rootN st (n8 (xb % 4#8)) (n8 (xc % 5#8)) ((xd % 16#8) ||| 4#8) = nv at HC_
            clear hE hS
            go_wp2_with fail
            refine HC_.out.mono ?_
            rintro e w7 ⟨rfl, hm, hs⟩
            clear HC_ e0 e1 e2 e3
            have HP8 : Hd (∀ k, k < w.heap.size → p3 k) := ⟨fun k hk => hs.more k (HP4.out k hk)⟩
            clear HP4
            have FB_8 := Hd.mk (FB_4.out.step hs)
            have Fs_8 := Hd.mk (Fs_4.out.step hs)
            have Fh_8 := Hd.mk (FNh3.out.step hs)
            have HM8 := Hd.mk hm
            clear FB_4 Fs_4 FNh3 HM4
            clear hs hm
            go_wp2_with fail
            go_roundw
            case rel => exact ⟨k + 1, by have := HLM.out; omega, by go_num, ⟨TabAt.less HM8.out HP8.out⟩, ⟨FB_8.out.now⟩⟩
            case measure => have := HLM.out; simp [intOf]; omega
          · have d1 : (xa % 8#8 == 0#8) = false := by simpa using ha
            have HA := Hd.mk ha
            clear ha
            obtain ⟨hjl, hpk⟩ := pick_live (l := liveS st) (by rw [HNLl.out]; exact HZ.out) xb
            obtain ⟨j, hj⟩ : ∃ j, xb.toNat % (liveS st).length = j := ⟨_, rfl⟩
            have hjn : xb.toNat % nl = j := by rw [← hj, HNLl.out]
            have hjl2 : j < (liveS st).length := by rw [← hj]; exact hjl
            have hpk2 : pickL (liveS st) xb = (liveS st)[j] := by rw [hpk]; simp only [hj]
            obtain ⟨⟨hs, hp, ht, ho, hr⟩, hh⟩ : ∃ x, (liveS st)[j] = x := ⟨_, rfl⟩
            rw [hh] at hpk2
            have hmem : (⟨hs, hp, ht, ho, hr⟩ : Hn) ∈ liveS st := by rw [← hh]; exact List.getElem_mem _
            have HPK := Hd.mk hpk2
            have HMEM := Hd.mk hmem
            obtain ⟨b2, off2, rfl, _, hc2⟩ := (OwnN.src FNh3.out.now).at j hjl2
            rw [hh] at hc2
            have x0 : w3.cell? ⟨b2, off2 + j * 5, none⟩ = some (.int .i64 hs) := hc2 0 _ rfl
            have x1 : w3.cell? ⟨b2, off2 + j * 5 + 1, none⟩ = some (.int .i64 hp) := hc2 1 _ rfl
            have x2 : w3.cell? ⟨b2, off2 + j * 5 + 2, none⟩ = some (.int .i64 ht) := hc2 2 _ rfl
            have x3 : w3.cell? ⟨b2, off2 + j * 5 + 3, none⟩ = some (.int .i64 ho) := hc2 3 _ rfl
            have x4 : w3.cell? ⟨b2, off2 + j * 5 + 4, none⟩ = some (h8 hr) := hc2 4 _ rfl
            have r0 : (0 : Int) ≤ n8 xb := by unfold n8; omega
            have r1 : n8 xb % (nl : Int) = (j : Int) := by unfold n8; omega
            have r2 : Int.tmod (n8 xb) (nl : Int) = (j : Int) := by rw [Int.tmod_eq_emod_of_nonneg r0]; exact r1
            have hj3 : j ≤ 255 := by
              have h1 := xb.isLt
              have h2 := Nat.mod_le xb.toNat nl
              omega
            have r3 : IntKind.i64.wrap (j : Int) = (j : Int) := IntWalk.i64_in _ ⟨by omega, by omega⟩
            have r4 : (0 : Int) ≤ (j : Int) := by omega
            have r5 : (j : Int) < (nl : Int) := by have := HNLl.out; omega
            have HJB := Hd.mk (show -9223372036854775808 ≤ hs ∧ hs ≤ 9223372036854775807 from by
              have h1 := HM4.out.ok.lo _ (live_mem.1 hmem)
              have h2 := HM4.out.ok.n2
              simp only at h1
              omega)
            clear hj3 hjl hpk hj hjn hjl2 hpk2 hh hmem hc2 r0 r1
            go_upto_region 13 with fail
            clear FNh3
            obtain ⟨A9, hW⟩ : ∃ W, (w3.alloc (.cells #[.int .i64 hs, .int .i64 hp, .int .i64 ht, .int .i64 ho, h8 hr] 34)) = W := ⟨_, rfl⟩
            obtain ⟨p9, hm, hf, hs⟩ := lit_box HM4.out (.cells #[.int .i64 hs, .int .i64 hp, .int .i64 ht, .int .i64 ho, h8 hr] 34)
            rw [hW] at hm hf hs
            rw [hW]
            clear hW
            have FNx9 := Hd.mk hf
            clear hf
            have HP10 : Hd (∀ k, k < w.heap.size → p9 k) := ⟨fun k hk => hs.more k (HP4.out k hk)⟩
            clear HP4
            have FB_10 := Hd.mk (FB_4.out.step hs)
            have Fs_10 := Hd.mk (Fs_4.out.step hs)
            have HM10 := Hd.mk hm
            clear FB_4 Fs_4 HM4
            clear hs hm
            clear e0 e1 e2 e3 x0 x1 x2 x3 x4 r2 r3 r4 r5 d00
            have hcx := Fs_10.out.now
            have e0 := (cells_cell hcx 0).trans (show _ = some (h8 xa) from rfl)
            have e1 := (cells_cell hcx 1).trans (show _ = some (h8 xb) from rfl)
            have e2 := (cells_cell hcx 2).trans (show _ = some (h8 xc) from rfl)
            have e3 := (cells_cell hcx 3).trans (show _ = some (h8 xd) from rfl)
            clear hcx
            have hcx := FNx9.out.now
            have x0 := (cells_cell hcx 0).trans (show _ = some (Value.int .i64 hs) from rfl)
            have x1 := (cells_cell hcx 1).trans (show _ = some (Value.int .i64 hp) from rfl)
            have x2 := (cells_cell hcx 2).trans (show _ = some (Value.int .i64 ht) from rfl)
            have x3 := (cells_cell hcx 3).trans (show _ = some (Value.int .i64 ho) from rfl)
            have x4 := (cells_cell hcx 4).trans (show _ = some (h8 hr) from rfl)
            clear hcx
            by_cases h7 : xa % 8#8 = 7#8
            · have d7 : (xa % 8#8 == 7#8) = true := by simpa using h7
              have hE : getE st hs = 0 := (getE_live HSH.out.ok HMEM.out).1
              have hS : revokeS st hs = makeK ls (k + 1) := by
                rw [HSC.out, HX.out]
                unfold stepS
                rw [if_neg (by rintro (h | h); exact HZ.out (by rw [← HNLl.out]; exact h); exact HA.out h), if_pos h7, HPK.out]
              have HC_ := Hd.mk (y_revoke HM10.out HJB.out (l := belowS st hs) rfl hE hS)
              clear hE hS h7
              go_wp2_with fail
              refine HC_.out.mono ?_
              rintro e w11 ⟨a11, c11, p11, rfl, hm, hf, hs2⟩
              clear HC_ e0 e1 e2 e3 x0 x1 x2 x3 x4 hf
              have HP12 : Hd (∀ k, k < w.heap.size → p11 k) := ⟨fun k hk => hs2.more k (HP10.out k hk)⟩
              clear HP10
              have FB_12 := Hd.mk (FB_10.out.step hs2)
              have Fs_12 := Hd.mk (Fs_10.out.step hs2)
              have Fx_12 := Hd.mk (FNx9.out.step hs2)
              have HM12 := Hd.mk hm
              clear FB_10 Fs_10 FNx9 HM10
              clear hs2 hm
              go_wp2_with fail
              go_roundw
              case rel => exact ⟨k + 1, by have := HLM.out; omega, by go_num, ⟨TabAt.less HM12.out HP12.out⟩, ⟨FB_12.out.now⟩⟩
              case measure => have := HLM.out; simp [intOf]; omega
            · have d7 : (xa % 8#8 == 7#8) = false := by simpa using h7
              obtain ⟨hE, hN⟩ := der_made HSH.out HLT.out HMEM.out xc xd
              simp only at hE hN
              have hS : derS st hs (n8 (xc % 5#8)) (xd &&& hr) = makeK ls (k + 1) := by
                rw [HSC.out, HX.out]
                unfold stepS
                rw [if_neg (by rintro (h | h); exact HZ.out (by rw [← HNLl.out]; exact h); exact HA.out h), if_neg h7, HPK.out]
              clear h7
              by_cases hg : hr &&& 4#8 = 0#8
              · rw [if_pos hg] at hE
                have HC_ := Hd.mk (y_der HM10.out HJB.out (hN hg) hE hS)
                have d8 : (hr &&& 4#8 == 0#8) = true := by simpa using hg
                have d9 : (hr &&& 4#8 != 0#8) = false := by simpa using hg
                clear hE hS hN hg
                go_wp2_with fail
                refine HC_.out.mono ?_
                rintro e w13 ⟨rfl, hm, hs2⟩
                clear HC_ e0 e1 e2 e3 x0 x1 x2 x3 x4
                have HP14 : Hd (∀ k, k < w.heap.size → p9 k) := ⟨fun k hk => hs2.more k (HP10.out k hk)⟩
                clear HP10
                have FB_14 := Hd.mk (FB_10.out.step hs2)
                have Fs_14 := Hd.mk (Fs_10.out.step hs2)
                have Fx_14 := Hd.mk (FNx9.out.step hs2)
                have HM14 := Hd.mk hm
                clear FB_10 Fs_10 FNx9 HM10
                clear hs2 hm
                have hcx := Fx_14.out.now
                have x0 := (cells_cell hcx 0).trans (show _ = some (Value.int .i64 hs) from rfl)
                have x1 := (cells_cell hcx 1).trans (show _ = some (Value.int .i64 hp) from rfl)
                have x2 := (cells_cell hcx 2).trans (show _ = some (Value.int .i64 ht) from rfl)
                have x3 := (cells_cell hcx 3).trans (show _ = some (Value.int .i64 ho) from rfl)
                have x4 := (cells_cell hcx 4).trans (show _ = some (h8 hr) from rfl)
                clear hcx
                go_wp2_with fail
                go_roundw
                case rel => exact ⟨k + 1, by have := HLM.out; omega, by go_num, ⟨TabAt.less HM14.out HP14.out⟩, ⟨FB_14.out.now⟩⟩
                case measure => have := HLM.out; simp [intOf]; omega
              · rw [if_neg hg] at hE
                have HC_ := Hd.mk (y_der HM10.out HJB.out (n := derN st hs (n8 (xc % 5#8)) (xd &&& hr)) rfl hE hS)
                generalize derN st hs (n8 (xc % 5#8)) (xd &&& hr) = nv at HC_ hN
                have d8 : (hr &&& 4#8 == 0#8) = false := by simpa using hg
                have d9 : (hr &&& 4#8 != 0#8) = true := by simpa using hg
                clear hE hS hN hg
                go_wp2_with fail
                refine HC_.out.mono ?_
                rintro e w15 ⟨rfl, hm, hs2⟩
                clear HC_ e0 e1 e2 e3 x0 x1 x2 x3 x4
                have HP16 : Hd (∀ k, k < w.heap.size → p9 k) := ⟨fun k hk => hs2.more k (HP10.out k hk)⟩
                clear HP10
                have FB_16 := Hd.mk (FB_10.out.step hs2)
                have Fs_16 := Hd.mk (Fs_10.out.step hs2)
                have Fx_16 := Hd.mk (FNx9.out.step hs2)
                have HM16 := Hd.mk hm
                clear FB_10 Fs_10 FNx9 HM10
                clear hs2 hm
                have hcx := Fx_16.out.now
                have x0 := (cells_cell hcx 0).trans (show _ = some (Value.int .i64 hs) from rfl)
                have x1 := (cells_cell hcx 1).trans (show _ = some (Value.int .i64 hp) from rfl)
                have x2 := (cells_cell hcx 2).trans (show _ = some (Value.int .i64 ht) from rfl)
                have x3 := (cells_cell hcx 3).trans (show _ = some (Value.int .i64 ho) from rfl)
                have x4 := (cells_cell hcx 4).trans (show _ = some (h8 hr) from rfl)
                clear hcx
                go_wp2_with fail
                go_roundw
                case rel => exact ⟨k + 1, by have := HLM.out; omega, by go_num, ⟨TabAt.less HM16.out HP16.out⟩, ⟨FB_16.out.now⟩⟩
                case measure => have := HLM.out; simp [intOf]; omega
      · obtain rfl : k = 60 := by omega
        clear hlt hk
        go_wp2_with fail
        refine bodyPost_ret (results_tmp2 Try.results12 _ _ _) rfl ?_
        exact ⟨M, rfl, HR.out, HB.out⟩

end Go.Proofs.Ytinagiofolmhbaa
