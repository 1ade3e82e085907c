/- Close. -/
import Derived.Test.YtinagiofolmhbaaB6
namespace Go.Proofs.Ytinagiofolmhbaa
open Go.RowKit
set_option linter.unusedVariables false
set_option linter.unusedSimpArgs false

theorem OwnE.lower {α : Type} {enc : α → Value} {w : World} {base base' e : Nat} {v : Value} {xs : List α} (h : OwnE enc w base e v xs) (hb : base' ≤ base) : OwnE enc w base' e v xs := by
  obtain ⟨h1, h2⟩ := h
  rcases h2 with h2 | ⟨g, cap, cur, hv, hg, h3⟩
  · exact ⟨h1, .inl h2⟩
  · exact ⟨h1, .inr ⟨g, cap, cur, hv, Nat.le_trans hb hg, h3⟩⟩
set_option maxRecDepth 100000 in
set_option maxHeartbeats 2000000 in
theorem close_any {y : Lay} {w : World} {pr : Nat → Prop} {M : Nat} {st : St} (h : TabL y w pr M st) (p : Int) :
    Calls Try.prog 15 #[.pointer (some ⟨M, 0, none⟩), .int .i64 p] w fun e w' => ∃ a c pr', e = .returned (.slice a (closeL st p).length c) ∧ TabAt w' pr' M (closeS st p) ∧ Held pr' w' (fun W => AppI W w.heap.size (.slice a (closeL st p).length c) (closeL st p)) ∧ Step pr w pr' w' := by
  have HC := Hd.mk (all_any h)
  have HT := Hd.mk h
  clear h
  obtain ⟨n, hn⟩ : ∃ n, (liveS st).length = n := ⟨_, rfl⟩
  have HN := Hd.mk hn
  have hn256 : n ≤ 256 := by rw [← hn]; exact HT.out.ok.live
  have HN2 := Hd.mk hn256
  clear hn hn256
  go_enter Try.func15, Try.ntmps15
  go_wp2_with fail
  refine HC.out.mono ?_
  rintro e w1 ⟨v, rfl, hO, hB⟩
  have hns := hO.src.small
  obtain ⟨a, c, rfl⟩ := hO.shape
  rw [HN.out] at hO hns ⊢
  have HT1 := Hd.mk (HT.out.protect hB)
  obtain ⟨L, hm, hl, _⟩ := HT1.out.mlen
  obtain ⟨mb, hmb⟩ : ∃ b, y.mb = b := ⟨_, rfl⟩
  rw [hmb] at hm
  have HMB := Hd.mk hmb
  have HM := Hd.mk hm
  have HMT : Hd (¬ w.heap.size ≤ mb) := ⟨by have := (HT.out.foot y.mb (.inr (.inl rfl))).2; rw [hmb] at this; omega⟩
  obtain ⟨cl, hcl⟩ : ∃ f : Nat → List Int, (fun k => (((liveS st).take k).filter (fun h => decide (h.port = p))).map (·.ser)) = f := ⟨_, rfl⟩
  have hcl0 : cl 0 = [] := by rw [← hcl]; rfl
  have hcln : cl n = closeL st p := by rw [← hcl]; simp only; unfold closeL; rw [List.take_of_length_le (by rw [HN.out]; omega)]
  have hcll : ∀ k, (cl k).length ≤ k := by
    intro k
    rw [← hcl]
    simp only [List.length_map]
    exact Nat.le_trans (List.length_filter_le _ _) (by rw [List.length_take]; omega)
  have hcls : ∀ k (hk : k < (liveS st).length), cl (k + 1) = if (liveS st)[k].port = p then cl k ++ [(liveS st)[k].ser] else cl k := by
    intro k hk
    rw [← hcl]
    simp only
    rw [List.take_succ_eq_append_getElem hk, List.filter_append, List.map_append]
    split
    · rename_i e; simp [e]
    · rename_i e; simp [e]
  have HCL := Hd.mk (And.intro hcln (And.intro hcll hcls))
  have H0 : Hd (GonQ w1 w1 mb (liveS st) (cl 0)) := ⟨⟨⟨L, hm, by rw [hcl0]; simpa using hl⟩, grown_refl _ _⟩⟩
  have H1 : Hd (AppI w1 w1.heap.size (.slice none 0 0) (cl 0)) := ⟨by rw [hcl0]; exact OwnE.nil _ _ _ _⟩
  have HO := Hd.mk hO
  have HB := Hd.mk hB
  clear hO hB hm hl hmb HC hcl hcl0 hcln hcll hcls
  go_wp2_with fail
  go_loopw [5, 11] (fun v i W => ∃ k : Nat, k ≤ n ∧ i = .int .i64 k ∧ Hd (AppI W w1.heap.size v (cl k)) ∧ Hd (GonQ w1 W mb (liveS st) (cl k))) (fun _ i _ => n - (intOf i).toNat)
  case atStart => exact ⟨0, by omega, rfl, H1, H0⟩
  case round =>
    obtain ⟨k, hk, rfl, HV, HR⟩ := hrel
    have hsv := HV.out.src.small
    obtain ⟨av, cv, rfl⟩ := HV.out.src.shape
    by_cases hlt : k < n
    · have hkl : k < (liveS st).length := by rw [HN.out]; exact hlt
      obtain ⟨x, hx⟩ : ∃ x, (liveS st)[k] = x := ⟨_, rfl⟩
      have hxm : x ∈ liveS st := by rw [← hx]; exact List.getElem_mem _
      have hxb := HT.out.ok.lo _ (live_mem.1 hxm)
      have hn2 := HT.out.ok.n2
      have HXR : Hd (-9223372036854775808 ≤ x.ser ∧ x.ser ≤ 9223372036854775807) := ⟨by simp only at hxb; omega⟩
      have hsucc := HCL.out.2.2 k hkl
      rw [hx] at hsucc
      have hrow : OwnN hL wr w.heap.size 34 (.slice a n c) (liveS st) := HO.out.same fun g hg => HR.out.grown.block g (HO.out.lt hg).2 (fun e => by cases e; exact absurd (HMT.out (HO.out.lt hg).1) id)
      obtain ⟨b, off, rfl, hb, hc⟩ := hrow.src.at k hkl
      rw [hx] at hc
      have h0 : wr.cell? ⟨b, off + k * 5, none⟩ = some (.int .i64 x.ser) := hc 0 _ rfl
      have h1 : wr.cell? ⟨b, off + k * 5 + 1, none⟩ = some (.int .i64 x.par) := hc 1 _ rfl
      have h2 : wr.cell? ⟨b, off + k * 5 + 2, none⟩ = some (.int .i64 x.port) := hc 2 _ rfl
      have h3 : wr.cell? ⟨b, off + k * 5 + 3, none⟩ = some (.int .i64 x.hol) := hc 3 _ rfl
      have h4 : wr.cell? ⟨b, off + k * 5 + 4, none⟩ = some (h8 x.rts) := hc 4 _ rfl
      have k0 : (0 : Int) ≤ (k : Int) := by omega
      have k1 : (k : Int) < (n : Int) := by omega
      have k2 : (k : Int) + 1 ≤ 9223372036854775807 := by omega
      have HLT := Hd.mk hlt
      obtain ⟨Wb, hWb⟩ : ∃ W, wr.alloc (.cells #[.int .i64 x.ser, .int .i64 x.par, .int .i64 x.port, .int .i64 x.hol, h8 x.rts] 34) = W := ⟨_, rfl⟩
      have hbB : Below wr.heap.size wr Wb := by rw [← hWb]; exact (Below.refl _ _).alloc (Nat.le_refl _) _
      have hbX : Wb.heap[wr.heap.size]? = some (.cells #[.int .i64 x.ser, .int .i64 x.par, .int .i64 x.port, .int .i64 x.hol, h8 x.rts] 34 (0, 0)) := by rw [← hWb]; exact heap_alloc_new _ _
      obtain ⟨X, hX⟩ : ∃ r, wr.heap.size = r := ⟨_, rfl⟩
      rw [hX] at hbX
      have q0 := (cells_cell hbX 0).trans (show _ = some (.int .i64 x.ser) from rfl)
      have q2 := (cells_cell hbX 2).trans (show _ = some (.int .i64 x.port) from rfl)
      have HGB := Hd.mk (HR.out.below hbB)
      have HVB := Hd.mk (show AppI Wb w1.heap.size (.slice av (cl k).length cv) (cl k) from OwnE.below HV.out hbB)
      have HBX := Hd.mk hbX
      have HXS := Hd.mk hX
      have HWB := Hd.mk hWb
      have HKL := Hd.mk hkl
      clear hkl hx hxm hb hk hlt hrow hbB hbX hX hWb hc hxb hn2 hsv hns
      by_cases hport : x.port = p
      · rw [if_pos hport] at hsucc
        have d2 : decide (x.port = p) = true := decide_eq_true hport
        obtain ⟨m, hm⟩ : ∃ m, (cl k).length = m := ⟨_, rfl⟩
        have hm2 := HCL.out.2.1 k
        have hvb := HVB.out
        have hmt := HM.out.lt
        rw [hm] at hvb hm2 ⊢
        obtain ⟨v6, W6, hr, ho, _, hg⟩ := push_i (W0 := Wb) x.ser (show AppI Wb w1.heap.size (.slice av m cv) (cl k) from hvb) (Below.refl _ _) HGB.out.grown.size (by rw [hm]; have := HN2.out; omega)
        have hown := fun g hg => (World.ownsRow.lt hvb g hg).1
        have hown6 := fun g hg => (World.ownsRow.lt ho g hg).1
        have hX6 : W6.heap[X]? = some (.cells #[.int .i64 x.ser, .int .i64 x.par, .int .i64 x.port, .int .i64 x.hol, h8 x.rts] 34 (0, 0)) := by
          have h2 : (Wb.alloc (.cells #[.int .i64 x.ser] 3)).heap[X]? = some (.cells #[.int .i64 x.ser, .int .i64 x.par, .int .i64 x.port, .int .i64 x.hol, h8 x.rts] 34 (0, 0)) := (Below.heap_alloc Wb _ X (lt_of_heap HBX.out)).trans HBX.out
          refine (hg.block X (lt_of_heap h2) (fun e2 => ?_)).trans h2
          obtain ⟨d, hd, hdk⟩ := own_some e2.symm
          rcases hvb.2 with ⟨h3, _⟩ | ⟨g, cap2, cur, hv, _, hh, _⟩
          · simp only [Value.slice.injEq] at h3; rw [h3.1] at hd; cases hd
          · simp only [Value.slice.injEq] at hv
            rw [hv.1] at hd
            cases hd
            simp only at hdk
            rw [hdk, HBX.out] at hh
            cases hh
        have hG6 : GonQ w1 W6 mb (liveS st) (cl k) := (HGB.out.below ((Below.refl _ _).alloc (Nat.le_refl _) _)).row hg hown hmt
        obtain ⟨W7, hdel, hG7, hg7⟩ := GonQ.del (hG6.below ((Below.refl _ _).drew)) x.ser HXR.out 0
        rw [← hsucc] at hG7 ho
        have hO7 : AppI W7 w1.heap.size v6 (cl (k + 1)) := OwnE.same ho fun g cur fr hg' hv => hg7.block g (lt_of_heap hg') (fun e => by cases e; have := hown6 _ hv; omega)
        have hM6 := cells_cell (hG6.cells HM.out HT1.out.bM) 2
        have s6 : W6.drew.cell? ⟨M, 2, none⟩ = some (.map (some mb)) ∧ W6.drew.cell? ⟨X, 0, none⟩ = some (.int .i64 x.ser) := ⟨hM6.trans (by rw [← HMB.out]; exact HT1.out.c2), (cells_cell hX6 0).trans (show _ = some (Value.int .i64 x.ser) from rfl)⟩
        have hmX : X ≠ mb := by
          have := HXS.out
          have := HR.out.grown.size
          omega
        have s7 : W7.cell? ⟨M, 2, none⟩ = some (.map (some mb)) ∧ W7.cell? ⟨X, 0, none⟩ = some (.int .i64 x.ser) := ⟨(cells_cell (hG7.cells HM.out HT1.out.bM) 2).trans (by rw [← HMB.out]; exact HT1.out.c2), (cells_cell ((hg7.block X (lt_of_heap hX6) (fun e => hmX (by cases e; rfl))).trans hX6) 0).trans (show _ = some (Value.int .i64 x.ser) from rfl)⟩
        have HS6 := Hd.mk s6
        have HS7 := Hd.mk s7
        have HQ := Hd.mk (And.intro hO7 hG7)
        have HK := Hd.mk (And.intro k0 (And.intro k1 k2))
        have HP := Hd.mk hport
        clear hport d2 hsucc hvb hmt hm hm2 ho hg hown hown6 hX6 hG6 hG7 hg7 hO7 hM6 s6 s7 hmX
        go_upto_region 5 with fail
        rw [HWB.out]
        try rw [HXS.out]
        clear k0 k1 k2 h0 h1 h2 h3 h4
        have hport := HP.out
        go_upto_region 7 with (at_builtin; refine wpList_append_run rfl _ _ _ rfl rfl rfl hr ?_; clear hr)
        refine wp_region_held_drew (S := fun W => W.cell? ⟨M, 2, none⟩ = some (.map (some mb)) ∧ W.cell? ⟨X, 0, none⟩ = some (.int .i64 x.ser)) (by kernel_rfl) HS6.out (fun hS_ => ?_)
        try dsimp only at hS_
        refine takeW 0 ?_ rfl (by kernel_rfl) (by kernel_rfl) (by kernel_rfl) (fun _ _ _ h => h) (by rfl) ?_ hS_ ?_
        rotate_left
        · intro w hSw
          try dsimp only at hSw
          go_simp
          with_reducible rfl
        try simp only [Act.put, List.setIfInBounds_toArray, List.set_cons_zero, List.set_cons_succ]
        refine takeW 1 ?_ rfl (by kernel_rfl) (by kernel_rfl) (by kernel_rfl) (fun _ _ _ h => h) (by rfl) ?_ hS_ ?_
        rotate_left
        · intro w hSw
          try dsimp only at hSw
          go_simp
          with_reducible rfl
        try simp only [Act.put, List.setIfInBounds_toArray, List.set_cons_zero, List.set_cons_succ]
        refine takeW 2 ?_ rfl (by kernel_rfl) (by kernel_rfl) (by kernel_rfl) (fun _ _ _ h => h) (by rfl) ?_ hS_ ?_
        rotate_left
        · intro w hSw
          try dsimp only at hSw
          go_simp
          with_reducible rfl
        try simp only [Act.put, List.setIfInBounds_toArray, List.set_cons_zero, List.set_cons_succ]
        refine takeW 3 ?_ rfl (by kernel_rfl) (by kernel_rfl) (by kernel_rfl) (fun _ _ _ h => h) (by rfl) ?_ hS_ ?_
        rotate_left
        · intro w hSw
          try dsimp only at hSw
          go_simp
          with_reducible rfl
        try simp only [Act.put, List.setIfInBounds_toArray, List.set_cons_zero, List.set_cons_succ]
        refine takeW 4 ?_ rfl (by kernel_rfl) (by kernel_rfl) (by kernel_rfl) (fun _ _ _ h => h) (by rfl) ?_ hS_ ?_
        rotate_left
        · intro w hSw
          try dsimp only at hSw
          go_simp
          with_reducible rfl
        try simp only [Act.put, List.setIfInBounds_toArray, List.set_cons_zero, List.set_cons_succ]
        refine takeW 5 ?_ rfl (by kernel_rfl) (by kernel_rfl) (by kernel_rfl) (fun _ _ _ h => h) (by rfl) ?_ hS_ ?_
        rotate_left
        · intro w hSw
          try dsimp only at hSw
          go_simp
          with_reducible rfl
        try simp only [Act.put, List.setIfInBounds_toArray, List.set_cons_zero, List.set_cons_succ]
        refine wpAnyH_ready (rs := [6]) (by kernel_rfl) (by simp) (readyL rfl (fun K hK => ?_) AllReadyH.nil)
        go_simp
        refine hK.out _ _ HS7.out (fun _ => ?_)
        clear hK K hS_ hdel
        try simp only [Act.put, List.setIfInBounds_toArray, List.set_cons_zero, List.set_cons_succ]
        refine wpAnyH_done (by kernel_rfl) ?_ _
        obtain ⟨k0, k1, k2⟩ := HK.out
        go_wp2_with fail
        go_roundw
        case rel => exact ⟨k + 1, by have := HLT.out; omega, by go_num, ⟨HQ.out.1⟩, ⟨HQ.out.2⟩⟩
        case measure => have := HLT.out; simp [intOf]; omega
      · rw [if_neg hport] at hsucc
        have d2 : decide (x.port = p) = false := decide_eq_false hport
        have hq := HGB.out
        have hv := HVB.out
        obtain ⟨m, hm⟩ : ∃ m, (cl k).length = m := ⟨_, rfl⟩
        rw [hm] at hv ⊢
        rw [← hsucc] at hq hv
        clear hm
        have HQ := Hd.mk (And.intro hv hq)
        have HK := Hd.mk (And.intro k0 (And.intro k1 k2))
        clear hsucc hq hv
        go_upto_region 5 with fail
        rw [HWB.out]
        try rw [HXS.out]
        clear k0 k1 k2 h0 h1 h2 h3 h4
        go_upto_region 8 with fail
        obtain ⟨k0, k1, k2⟩ := HK.out
        go_wp2_with fail
        go_roundw
        case rel => exact ⟨k + 1, by have := HLT.out; omega, by go_num, ⟨HQ.out.1⟩, ⟨HQ.out.2⟩⟩
        case measure => have := HLT.out; simp [intOf]; omega
    · obtain rfl : k = n := by omega
      clear hlt hk
      rw [show (cl k).length = (closeL st p).length from by rw [HCL.out.1]]
      go_wp2_with fail
      refine bodyPost_ret (results_tmp Try.results15 _ _ _) rfl ?_
      have hv := HV.out
      have hgon := HR.out
      rw [HCL.out.1] at hv hgon
      obtain ⟨L2, hm2, hl2⟩ := hgon.map
      have hT2 := HT1.out.taken (closeL st p) (by rw [HMB.out]; exact hm2) hl2 (by rw [HMB.out]; exact hgon.grown)
      have hsz := hgon.grown.size
      have hb1 := HB.out.size
      have hpp := fun k => HT.out.prs k
      refine ⟨av, cv, Go.Proofs.Ytinagiofolmhbaa.grow pr w wr, rfl, ⟨y, hT2.frame (fun _ _ => rfl) ?_ ?_⟩, fun W hW => ?_, ⟨?_, fun k h => .inl h⟩⟩
      · rintro k (h | ⟨_, h⟩)
        · exact Nat.lt_of_lt_of_le (HT.out.prs k h) (Nat.le_trans hb1 hsz)
        · exact h
      · rintro k hk (h | ⟨h, _⟩)
        · exact (HT.out.foot k hk).1 h
        · have := (HT.out.foot k hk).2; omega
      · have := OwnE.lower hv hb1
        exact OwnE.same this fun g cur fr hg hown => hW.block g (.inr (by
          have := World.ownsRow.lt hv g hown
          omega))
      · exact (Step.grow (fun k hk => HT.out.prs k hk) HB.out).kept.trans (Kept.mono (Kept.grown hgon.grown (fun k hk => HT1.out.prs k hk) (fun k hk hp => by cases hk; exact HT1.out.pB (by rw [HMB.out]; exact hp))) fun k h => .inl h)
end Go.Proofs.Ytinagiofolmhbaa
