/- The reference's Plan. -/
import Derived.Test.YtlblpmadehikgaaE5
import Derived.Test.YtlblpmadehikgaaD5
namespace Go.Proofs.Ytlblpmadehikgaa
open Go.RowKit Go.Shelf
set_option linter.unusedVariables false

theorem info61w : ∃ i z, Try.prog.info? 61 = some i ∧ i.zero = some z ∧ z.cells.size = 2 ∧ i.size = 2 ∧ i.bytes = 16 :=
  ⟨_, _, rfl, rfl, by kernel_rfl, by kernel_rfl, by kernel_rfl⟩

/-- append(v, y...) where v is the call's own. -/
theorem append_r {w : World} {base : Nat} {v sv : Value} {cs ys : List (Int × Int)} (h : OwnC w base 61 v cs) (hbase : base ≤ w.heap.size) (hs : SrcC w sv ys) (hl : cs.length + ys.length ≤ 1000000) :
    ∃ v' w', (Builtin.append_ #[70, 70] 70 #[v, sv]).run Try.prog w = .ok v' w' ∧ OwnC w' base 61 v' (cs ++ ys) ∧ w.grownBy w' v.ownBlock := by
  obtain ⟨i, z, hi, hz, hzs, hsz, hby⟩ := info61w
  have go : ∀ (ad : Addr) (c : Nat), (∀ j u, (flat ys)[j]? = some u → w.cell? (ad.add j) = some u) → sv = .slice (some ad) ys.length c →
      ∃ v' w', (Builtin.append_ #[70, 70] 70 #[v, sv]).run Try.prog w = .ok v' w' ∧ OwnC w' base 61 v' (cs ++ ys) ∧ w.grownBy w' v.ownBlock := by
    rintro ad c hcell rfl
    obtain ⟨v', w', hr, ho, hg, _⟩ := run_append_own (P := Try.prog) w base 70 70 61 i z 2 16 Try.underlying70 hi hz hsz hby hzs (by decide) v cs.length (flat cs) h ad ys.length c (flat ys)
      (flat_len ys) hcell (flat_one ys) (by simp only [maxLen]; omega) (by omega) hbase
    refine ⟨v', w', hr, ?_, hg⟩
    unfold OwnC
    rw [List.length_append, flat_app]
    exact ho
  rcases hs with ⟨rfl, a, c, rfl, hac⟩ | ⟨b, off, c, rfl, _, _, _, hcell⟩
  · cases a with
    | none =>
      obtain rfl := hac rfl
      exact ⟨v, w, run_append_owned_none (P := Try.prog) w base 70 70 61 i 2 Try.underlying70 hi v cs.length (flat cs) h, by rw [List.append_nil]; exact h, ⟨rfl, rfl, rfl, Nat.le_refl _, fun _ _ _ => rfl⟩⟩
    | some ad => exact go ad c (fun j u hj => by simp [flat] at hj) rfl
  · refine go ⟨b, off, none⟩ c (fun j u hj => ?_) rfl
    rw [plain_add]
    have hlt : j < ys.length * 2 := by
      rcases Nat.lt_or_ge j (flat ys).length with h | h
      · rwa [flat_len] at h
      · rw [List.getElem?_eq_none h] at hj; cases hj
    obtain ⟨g1, g2⟩ := flat_get ys (j / 2) (by omega)
    obtain ⟨c1, c2⟩ := hcell (j / 2) (by omega)
    by_cases he : j % 2 = 0
    · rw [show j / 2 * 2 = j from by omega] at g1 c1
      rw [g1] at hj; cases hj; exact c1
    · rw [show j / 2 * 2 + 1 = j from by omega] at g2
      rw [show off + j / 2 * 2 + 1 = off + j from by omega] at c2
      rw [g2] at hj; cases hj; exact c2

/-- append(v, x): x lies in a block of its own; what is written. -/
theorem push_r {W0 w : World} {base : Nat} {v : Value} {cs : List (Int × Int)} (p q : Int) (h : OwnC w base 61 v cs) (hB : Below base W0 w) (hb : base ≤ w.heap.size) (hl : cs.length ≤ 100000) :
    ∃ v' w', (Builtin.append_ #[70, 70] 70 #[v, .slice (some ⟨w.heap.size, 0, none⟩) 1 1]).run Try.prog (w.alloc (.cells #[.int .i64 p, .int .i64 q] 61)) = .ok v' w' ∧ OwnC w' base 61 v' (cs ++ [(p, q)]) ∧ Below base W0 w' ∧ (w.alloc (.cells #[.int .i64 p, .int .i64 q] 61)).grownBy w' v.ownBlock := by
  have hs : SrcC (w.alloc (.cells #[.int .i64 p, .int .i64 q] 61)) (.slice (some ⟨w.heap.size, 0, none⟩) 1 1) [(p, q)] :=
    .inr ⟨w.heap.size, 0, 1, rfl, by simp, by simp [maxLen], by simp, fun j hj => by
      obtain rfl : j = 0 := by simpa using hj
      exact ⟨cells_cell (World.alloc_heap_new w _) 0, cells_cell (World.alloc_heap_new w _) 1⟩⟩
  have ho := h.alloc (.cells #[.int .i64 p, .int .i64 q] 61)
  have hB1 := hB.alloc hb (.cells #[.int .i64 p, .int .i64 q] 61)
  obtain ⟨v', w', hr, ho', hg⟩ := append_r ho (by simp; omega) hs (by simp; omega)
  exact ⟨v', w', hr, ho', ho.grown hB1 (by simp; omega) hg, hg⟩


/-- The windows behind the first one are those of the times that are not in it. -/
theorem wins_rest {A H : Int} {T : List Int} (hz : wrE T A H = 0) {x m : Int} {R : List (Int × Int)} (hx : winsV A H T = (x, m) :: R) :
    winsV A H (fromF m T) = R ∧ wrE (fromF m T) A H = 0 ∧ (fromF m T).length < T.length ∧ (∀ t ∈ T, x ≤ t) ∧ x < m := by
  have h0 := wr_zero hz
  have hA := (ahead_le h0.2.1).1
  obtain ⟨m1, m2, m3, m4⟩ := winsV_mem hA (w := (x, m)) (l := T) (by rw [hx]; exact List.mem_cons_self)
  have hl := winsV_least hx
  simp only at m1 m2 m3 m4
  refine ⟨?_, ?_, ?_, hl, m4⟩
  · rw [winsV_from h0.2.2.2 (by have := time_iff.1 (h0.2.2.2 x m1); omega) (by omega)]
    rw [winsV_winB h0.2.2.2, winB_next hA _ _ (sort_pw T)] at hx
    rcases hf : (sortV T).find? (fun t => decide (0 ≤ t)) with _ | s
    · rw [hf] at hx; cases hx
    · rw [hf] at hx
      simp only at hx
      split at hx
      · cases hx
      · simp only [List.cons.injEq, Prod.mk.injEq] at hx
        obtain ⟨⟨rfl, hm⟩, hR⟩ := hx
        rw [← hR, hm]
  · have hlen := fromF_len m T
    rw [wrE, if_neg (by omega), if_pos]
    rw [h0.2.1, h0.2.2.1, List.all_eq_true.2 (fun t ht => h0.2.2.2 t (fromF_mem.1 ht).1)]; rfl
  · rw [fromF]
    have := List.length_filter_lt_length_iff_exists (l := T) (p := fun t => decide (m ≤ t))
    exact this.2 ⟨x, m1, by simp; omega⟩

theorem alloc_grown (W : World) (o : Obj) (r : Option Nat) : W.grownBy (W.alloc o) r := ⟨rfl, rfl, rfl, by simp, fun i hi _ => Below.heap_alloc _ _ _ hi⟩
/-- The row of a slice is not the block that another one owns. -/
def ApartI (tv v : Value) : Prop := ∀ b off sp n c, tv = .slice (some ⟨b, off, sp⟩) n c → v.ownBlock ≠ some b
theorem src_kept {W W' : World} {tv : Value} {T : List Int} {row : Option Nat} (h : SrcI W tv T) (hg : W.grownBy W' row) (ha : ∀ b off sp n c, tv = .slice (some ⟨b, off, sp⟩) n c → row ≠ some b) : SrcI W' tv T := by
  rcases h with h | ⟨ad, c, hv, hc, hm, hcell⟩
  · exact .inl h
  · refine .inr ⟨ad, c, hv, hc, hm, fun j hj => ?_⟩
    have h1 := hcell j hj
    obtain ⟨b, off, sp⟩ := ad
    have hb : ((⟨b, off, sp⟩ : Addr).add j).block = b := by unfold Addr.add; split <;> simp_all
    have hlt := World.block_lt_of_cell? W _ h1
    rw [hb] at hlt
    have hblk := hg.block b hlt (fun e => ha b off sp _ _ hv e.symm)
    rw [← h1]
    simp only [World.cell?, hb, hblk]
theorem app_apart {W : World} {tv v : Value} {T : List Int} {N : Nat} (h : AppI W N tv T) (hv : ∀ g, v.ownBlock = some g → g < N) : ApartI tv v := by
  intro b off sp n c he ho
  rcases h.cases with ⟨h1, -⟩ | ⟨g, cap, h1, hg, -⟩
  · rw [h1] at he; simp at he
  · rw [h1] at he
    simp only [Value.slice.injEq, Option.some.injEq, Addr.mk.injEq] at he
    have := hv b ho
    omega
theorem rnext_some {l : List Int} {ah h : Int} {X : List (Int × Int)} {a b : Int} {I : List Int} (hz : wrE l ah h = 0) (hx : winsV ah h l = (a, b) :: X) (hi : inL l b l.length = I) {v : Value} {w : World} (hs : SrcI w v l) : Calls Try.prog 43 #[v, .int .i64 ah, .int .i64 h] w fun e w' =>
    ∃ v', e = .returned (.tuple #[.agg #[.int .i64 a, .int .i64 b], v', .int .i64 0]) ∧ OwnI w' w.heap.size v' I ∧ Below w.heap.size w w' := by
  have := rnext_any v l ah h w hs hz
  have h1 : nxE ah h l = 0 := by rw [nxE, if_pos hz, hx, if_neg (by simp)]
  have h2 : nxW ah h l = (a, b) := by rw [nxW, if_pos hz, hx]; rfl
  rw [nxI, h1, if_pos rfl, h2, hi] at this; exact this
theorem rnext_none {l : List Int} {ah h : Int} (hz : wrE l ah h = 0) (hx : winsV ah h l = []) {v : Value} {w : World} (hs : SrcI w v l) : Calls Try.prog 43 #[v, .int .i64 ah, .int .i64 h] w fun e w' =>
    ∃ v', e = .returned (.tuple #[.agg #[.int .i64 0, .int .i64 0], v', .int .i64 6]) ∧ OwnI w' w.heap.size v' [] ∧ Below w.heap.size w w' := by
  have := rnext_any v l ah h w hs hz
  have h1 : nxE ah h l = 6 := by rw [nxE, if_pos hz, hx, if_pos rfl]
  have h2 : nxW ah h l = (0, 0) := by rw [nxW, if_pos hz, hx]; rfl
  rw [nxI, h1, if_neg (by decide), h2] at this; exact this

set_option maxRecDepth 100000 in
set_option maxHeartbeats 4000000 in
theorem rplan_any (v : Value) (l : List Int) (A H : Int) (w : World) (hs : SrcI w v l) (hz : wrE l A H = 0) : Calls Try.prog 44 #[v, .int .i64 A, .int .i64 H] w fun e w' =>
    ∃ v', e = .returned v' ∧ OwnC w' w.heap.size 61 v' (winsV A H l) ∧ Below w.heap.size w w' := by
  have HS := Hd.mk hs
  have HZ := Hd.mk hz
  obtain ⟨X, hX⟩ : ∃ X, winsV A H l = X := ⟨_, rfl⟩
  rw [hX]
  have HX := Hd.mk hX
  have hXl : X.length ≤ 4096 := by rw [← hX, winsV]; exact Nat.le_trans (winsL_len _ _ _ _) (by rw [← (sort_perm l).length_eq]; exact (wr_zero hz).1)
  obtain ⟨a, c, rfl⟩ := hs.shape
  clear hs hz hX
  go_enter Try.func44, Try.ntmps44
  go_wp2_with fail
  go_loopw [0, 7] (fun tv v W => ∃ (k : Nat) (T : List Int), k ≤ X.length ∧ SrcI W tv T ∧ ApartI tv v ∧ Hd (wrE T A H = 0) ∧ Hd (winsV A H T = X.drop k) ∧ OwnC W w.heap.size 61 v (X.take k) ∧ Below w.heap.size w W) (fun tv _ _ => match tv with | .slice _ n _ => n | _ => 0)
  case atStart => exact ⟨0, l, by omega, HS.out, (fun _ _ _ _ _ _ h => by cases h), HZ, by simpa using HX, by simpa using OwnC.nil _ _ _, Below.refl _ _⟩
  case round =>
    obtain ⟨k, T, hk, hT, hAp, HW, HD, hO, hB⟩ := hrel
    have HAP := Hd.mk hAp
    clear hAp
    obtain ⟨at_, ct, rfl⟩ := hT.shape
    have HT := Hd.mk hT
    have HO := Hd.mk hO
    have HB := Hd.mk hB
    clear hT hO hB
    have hTl := (wr_zero HW.out).1
    rcases hdr : X.drop k with _ | ⟨⟨x, m⟩, R⟩
    · have hke : k = X.length := by
        have := congrArg List.length hdr
        rw [List.length_drop] at this
        simp at this; omega
      rw [hdr] at HD
      have HKE : Hd (X.take k = X) := ⟨by rw [hke, List.take_length]⟩
      clear hdr hke
      go_wp2_with fail
      refine (rnext_none HW.out HD.out HT.out).mono ?_
      rintro e w1 ⟨v1, rfl, -, hB1⟩
      have HB1 := Hd.mk (HB.out.trans (hB1.mono HB.out.size))
      have HO1 := Hd.mk (HO.out.below hB1)
      clear hB1
      go_wp2_with fail
      go_ret
      exact ⟨_, rfl, by rw [← HKE.out]; exact HO1.out.alloc _, bl_alloc HB1.out⟩
    · rw [hdr] at HD
      obtain ⟨hkl, hxk, hdr2⟩ := drop_cons' hdr
      have hrest := wins_rest HW.out HD.out
      have HRW : Hd (winsV A H (fromF m T) = X.drop (k + 1)) := ⟨by rw [hrest.1, hdr2]⟩
      have HRZ := Hd.mk hrest.2.1
      have HRL := Hd.mk hrest.2.2.1
      have HLE := Hd.mk hrest.2.2.2.1
      have HTK : Hd (X.take (k + 1) = X.take k ++ [(x, m)]) := ⟨by rw [List.take_succ_eq_append_getElem hkl, hxk]⟩
      have HKL := Hd.mk hkl
      clear hdr hkl hxk hdr2 hrest
      go_wp2_with fail
      refine (rnext_some HW.out HD.out rfl HT.out).mono ?_
      rintro e w1 ⟨v1, rfl, -, hB1⟩
      obtain ⟨W1, hW1⟩ : ∃ Y, w1.alloc (.cells #[.int .i64 x, .int .i64 m] 61) = Y := ⟨_, rfl⟩
      have hBW : Below wr.heap.size wr W1 := by rw [← hW1]; exact bl_alloc hB1
      have hbx : BoxF W1 w1.heap.size (.cells #[.int .i64 x, .int .i64 m] 61 (0, 0)) := by rw [← hW1]; exact World.alloc_heap_new _ _
      have c0 := cells_cell hbx 0
      have c1 := cells_cell hbx 1
      have hoW := HO.out.below hBW
      obtain ⟨v', w2, hrun, ho2, hB2, hg2⟩ := push_r x m hoW (HB.out.trans (hBW.mono HB.out.size)) (by have := HB.out.size; have := hBW.size; omega) (by rw [List.length_take]; omega)
      have hTW := HT.out.below hBW
      have hg3 := grown_trans (alloc_grown _ _ _) hg2
      have HT2 := Hd.mk (src_kept hTW hg3 HAP.out)
      have hown := fun g (h : _ = some g) => (World.ownsRow.lt HO.out g h).2
      have HBX2 := Hd.mk (show BoxF w2 w1.heap.size (.cells #[.int .i64 x, .int .i64 m] 61 (0, 0)) from (hg3.block _ (lt_of_heap hbx) (fun e => by have := hown _ e.symm; have := hB1.size; omega)).trans hbx)
      have HO2 := Hd.mk ho2
      have HB2 := Hd.mk hB2
      clear ho2 hB2 hg2 hoW hTW hg3 hown hB1 hBW hbx
      go_wp2_with (at_builtin; refine wpList_append_run rfl _ _ _ rfl rfl rfl hrun ?_; clear hrun)
      clear hW1 c0 c1
      have HTL : Hd (∀ g, v'.ownBlock = some g → g < w2.heap.size) := ⟨fun g h => (World.ownsRow.lt HO2.out g h).2⟩
      obtain ⟨wo, rfl⟩ : ∃ Y, Y = wr := ⟨_, rfl⟩
      go_loopw [11, 12] (fun v i W => ∃ q : Nat, q ≤ T.length ∧ i = .int .i64 q ∧ AppI W w2.heap.size v (fromF m (T.take q)) ∧ Below w2.heap.size w2 W) (fun _ i _ => T.length - (intOf i).toNat)
      case atStart => exact ⟨0, by omega, rfl, OwnE.nil _ _ _ _, Below.refl _ _⟩
      case round =>
        obtain ⟨q, hq, rfl, hO, hB⟩ := hrel
        have HO := Hd.mk hO
        have HB := Hd.mk hB
        have hin := fromF_len m (T.take q)
        rw [List.length_take] at hin
        by_cases hlt : q < T.length
        · obtain ⟨b, off, rfl, hbb, hx⟩ := (HT2.out.below hB).at q hlt
          obtain ⟨t, ht⟩ : ∃ t, T[q] = t := ⟨_, rfl⟩
          have hxt : x ≤ t := by rw [← ht]; exact HLE.out _ (List.getElem_mem hlt)
          have HY := Hd.mk (fun h => fromF_yes (h := m) hlt (by rw [ht]; exact h))
          have HNo := Hd.mk (fun h => fromF_no (h := m) hlt (by rw [ht]; exact h))
          rw [ht] at hx HY
          have HLT := Hd.mk hlt
          have k0 : (0 : Int) ≤ (q : Int) := by omega
          have k1 : (q : Int) < (T.length : Int) := by omega
          have hbx := HBX2.out.below hB
          have c0 := cells_cell hbx 0
          have c1 := cells_cell hbx 1
          simp only [List.getElem?_toArray, List.getElem?_cons_zero, List.getElem?_cons_succ] at c0 c1
          have hd1 : decide (t < x) = false := decide_eq_false (by omega)
          have HOd := Hd.mk (OwnE.below hO (bl_drew (Below.refl _ _)))
          clear ht hbb hO hB hbx
          go_upto_region 10 with fail
          have hS0 : wr.cell? ⟨b, off + q, none⟩ = some (.int .i64 t) ∧ wr.cell? ⟨w1.heap.size, 0, none⟩ = some (.int .i64 x) ∧ wr.cell? ⟨w1.heap.size, 1, none⟩ = some (.int .i64 m) ∧ Below wr.heap.size wr wr := ⟨hx, c0, c1, Below.refl _ _⟩
          by_cases htm : m ≤ t
          · have hd2 : decide (m ≤ t) = true := decide_eq_true htm
            have hct := hx
            refine wp_region_held_drew (S := fun W => W.cell? ⟨b, off + q, none⟩ = some (.int .i64 t) ∧ W.cell? ⟨w1.heap.size, 0, none⟩ = some (.int .i64 x) ∧ W.cell? ⟨w1.heap.size, 1, none⟩ = some (.int .i64 m) ∧ Below wr.heap.size wr W) (by kernel_rfl) (s8_keep hS0 (bl_drew (Below.refl _ _))) (fun hS_ => ?_)
            try dsimp only at hS_
            refine takeW 0 ?_ rfl (by kernel_rfl) (by kernel_rfl) (by kernel_rfl) (fun _ _ _ h => h) (by rfl) ?_ hS_ ?_
            rotate_left
            · intro w hSw
              try dsimp only at hSw
              go_simp
              with_reducible rfl
            try simp only [Act.put, List.setIfInBounds_toArray, List.set_cons_zero, List.set_cons_succ]
            refine takeW 1 ?_ rfl (by kernel_rfl) (by kernel_rfl) (by kernel_rfl) (fun _ _ _ h => h) (by rfl) ?_ hS_ ?_
            rotate_left
            · intro w hSw
              try dsimp only at hSw
              go_simp
              with_reducible rfl
            try simp only [Act.put, List.setIfInBounds_toArray, List.set_cons_zero, List.set_cons_succ]
            refine takeW 2 ?_ rfl (by kernel_rfl) (by kernel_rfl) (by kernel_rfl) (fun _ _ _ h => h) (by rfl) ?_ hS_ ?_
            rotate_left
            · intro w hSw
              try dsimp only at hSw
              go_simp
              with_reducible rfl
            try simp only [Act.put, List.setIfInBounds_toArray, List.set_cons_zero, List.set_cons_succ]
            refine takeW 3 ?_ rfl (by kernel_rfl) (by kernel_rfl) (by kernel_rfl) (fun _ _ _ h => h) (by rfl) ?_ hS_ ?_
            rotate_left
            · intro w hSw
              try dsimp only at hSw
              go_simp
              with_reducible rfl
            try simp only [Act.put, List.setIfInBounds_toArray, List.set_cons_zero, List.set_cons_succ]
            refine takeW 4 ?_ rfl (by kernel_rfl) (by kernel_rfl) (by kernel_rfl) (fun _ _ _ h => h) (by rfl) ?_ hS_ ?_
            rotate_left
            · intro w hSw
              try dsimp only at hSw
              go_simp
              with_reducible rfl
            try simp only [Act.put, List.setIfInBounds_toArray, List.set_cons_zero, List.set_cons_succ]
            refine takeW 5 ?_ rfl (by kernel_rfl) (by kernel_rfl) (by kernel_rfl) (fun _ _ _ h => h) (by rfl) ?_ hS_ ?_
            rotate_left
            · intro w hSw
              try dsimp only at hSw
              go_simp
              with_reducible rfl
            try simp only [Act.put, List.setIfInBounds_toArray, List.set_cons_zero, List.set_cons_succ]
            refine takeW 6 ?_ rfl (by kernel_rfl) (by kernel_rfl) (by kernel_rfl) (fun _ _ _ h => h) (by rfl) ?_ hS_ ?_
            rotate_left
            · intro w hSw
              try dsimp only at hSw
              go_simp
              with_reducible rfl
            try simp only [Act.put, List.setIfInBounds_toArray, List.set_cons_zero, List.set_cons_succ]
            refine takeW 7 ?_ rfl (by kernel_rfl) (by kernel_rfl) (by kernel_rfl) (fun _ _ _ h => h) (by rfl) ?_ hS_ ?_
            rotate_left
            · intro w hSw
              try dsimp only at hSw
              go_simp
              with_reducible rfl
            try simp only [Act.put, List.setIfInBounds_toArray, List.set_cons_zero, List.set_cons_succ]
            refine takeW 8 ?_ rfl (by kernel_rfl) (by kernel_rfl) (by kernel_rfl) (fun _ _ _ h => h) (by rfl) ?_ hS_ ?_
            rotate_left
            · intro w hSw
              try dsimp only at hSw
              go_simp
              with_reducible rfl
            try simp only [Act.put, List.setIfInBounds_toArray, List.set_cons_zero, List.set_cons_succ]
            refine takeW 9 ?_ rfl (by kernel_rfl) (by kernel_rfl) (by kernel_rfl) (fun _ _ _ h => h) (by rfl) ?_ hS_ ?_
            rotate_left
            · intro w hSw
              try dsimp only at hSw
              go_simp
              with_reducible rfl
            try simp only [Act.put, List.setIfInBounds_toArray, List.set_cons_zero, List.set_cons_succ]
            refine takeW 10 ?_ rfl (by kernel_rfl) (by kernel_rfl) (by kernel_rfl) (fun _ _ _ h => h) (by rfl) ?_ hS_ ?_
            rotate_left
            · intro w hSw
              try dsimp only at hSw
              go_simp
              with_reducible rfl
            try simp only [Act.put, List.setIfInBounds_toArray, List.set_cons_zero, List.set_cons_succ]
            refine takeW 11 ?_ rfl (by kernel_rfl) (by kernel_rfl) (by kernel_rfl) (fun _ _ _ h => h) (by rfl) ?_ hS_ ?_
            rotate_left
            · intro w hSw
              try dsimp only at hSw
              go_simp
              with_reducible rfl
            try simp only [Act.put, List.setIfInBounds_toArray, List.set_cons_zero, List.set_cons_succ]
            refine takeW 12 ?_ rfl (by kernel_rfl) (by kernel_rfl) (by kernel_rfl) (fun _ _ _ h => h) (by rfl) ?_ hS_ ?_
            rotate_left
            · intro w hSw
              try dsimp only at hSw
              go_simp
              with_reducible rfl
            try simp only [Act.put, List.setIfInBounds_toArray, List.set_cons_zero, List.set_cons_succ]
            refine takeW 13 ?_ rfl (by kernel_rfl) (by kernel_rfl) (by kernel_rfl) (fun _ _ _ h => h) (by rfl) ?_ hS_ ?_
            rotate_left
            · intro w hSw
              try dsimp only at hSw
              go_simp
              with_reducible rfl
            try simp only [Act.put, List.setIfInBounds_toArray, List.set_cons_zero, List.set_cons_succ]
            refine takeW 14 ?_ rfl (by kernel_rfl) (by kernel_rfl) (by kernel_rfl) (fun _ _ _ h => h) (by rfl) ?_ hS_ ?_
            rotate_left
            · intro w hSw
              try dsimp only at hSw
              go_simp
              with_reducible rfl
            try simp only [Act.put, List.setIfInBounds_toArray, List.set_cons_zero, List.set_cons_succ]
            refine takeW 15 ?_ rfl (by kernel_rfl) (by kernel_rfl) (by kernel_rfl) (fun _ _ _ h => h) (by rfl) ?_ hS_ ?_
            rotate_left
            · intro w hSw
              try dsimp only at hSw
              go_simp
              with_reducible rfl
            try simp only [Act.put, List.setIfInBounds_toArray, List.set_cons_zero, List.set_cons_succ]
            refine wpAnyH_done (by kernel_rfl) ?_ _
            have HBd := Hd.mk (HB.out.drew)
            obtain ⟨wd, hwd⟩ : ∃ Y, wr.drew = Y := ⟨_, rfl⟩
            have hct2 : wd.cell? ⟨b, off + q, none⟩ = some (.int .i64 t) := by rw [← hwd]; exact hx
            rw [hwd] at HOd HBd ⊢
            obtain ⟨v2, w3, hrun, ho2, hB2, -⟩ := push_i t HOd.out HBd.out HBd.out.size (by omega)
            have HO3 := Hd.mk ho2
            have HB3 := Hd.mk hB2
            clear hwd ho2 hB2 hS_ hS0 hx hct c0 c1
            go_wp2_with (at_builtin; refine wpList_append_run rfl _ _ _ rfl rfl rfl hrun ?_; clear hrun)
            go_roundw
            case rel => exact ⟨q + 1, HLT.out, by go_num, by rw [HY.out htm]; exact HO3.out, HB3.out⟩
            case measure => have := HLT.out; simp [intOf] <;> omega
          · have hd2 : decide (m ≤ t) = false := decide_eq_false htm
            have hct := hx
            refine wp_region_held_drew (S := fun W => W.cell? ⟨b, off + q, none⟩ = some (.int .i64 t) ∧ W.cell? ⟨w1.heap.size, 0, none⟩ = some (.int .i64 x) ∧ W.cell? ⟨w1.heap.size, 1, none⟩ = some (.int .i64 m) ∧ Below wr.heap.size wr W) (by kernel_rfl) (s8_keep hS0 (bl_drew (Below.refl _ _))) (fun hS_ => ?_)
            try dsimp only at hS_
            refine takeW 0 ?_ rfl (by kernel_rfl) (by kernel_rfl) (by kernel_rfl) (fun _ _ _ h => h) (by rfl) ?_ hS_ ?_
            rotate_left
            · intro w hSw
              try dsimp only at hSw
              go_simp
              with_reducible rfl
            try simp only [Act.put, List.setIfInBounds_toArray, List.set_cons_zero, List.set_cons_succ]
            refine takeW 1 ?_ rfl (by kernel_rfl) (by kernel_rfl) (by kernel_rfl) (fun _ _ _ h => h) (by rfl) ?_ hS_ ?_
            rotate_left
            · intro w hSw
              try dsimp only at hSw
              go_simp
              with_reducible rfl
            try simp only [Act.put, List.setIfInBounds_toArray, List.set_cons_zero, List.set_cons_succ]
            refine takeW 2 ?_ rfl (by kernel_rfl) (by kernel_rfl) (by kernel_rfl) (fun _ _ _ h => h) (by rfl) ?_ hS_ ?_
            rotate_left
            · intro w hSw
              try dsimp only at hSw
              go_simp
              with_reducible rfl
            try simp only [Act.put, List.setIfInBounds_toArray, List.set_cons_zero, List.set_cons_succ]
            refine takeW 3 ?_ rfl (by kernel_rfl) (by kernel_rfl) (by kernel_rfl) (fun _ _ _ h => h) (by rfl) ?_ hS_ ?_
            rotate_left
            · intro w hSw
              try dsimp only at hSw
              go_simp
              with_reducible rfl
            try simp only [Act.put, List.setIfInBounds_toArray, List.set_cons_zero, List.set_cons_succ]
            refine takeW 4 ?_ rfl (by kernel_rfl) (by kernel_rfl) (by kernel_rfl) (fun _ _ _ h => h) (by rfl) ?_ hS_ ?_
            rotate_left
            · intro w hSw
              try dsimp only at hSw
              go_simp
              with_reducible rfl
            try simp only [Act.put, List.setIfInBounds_toArray, List.set_cons_zero, List.set_cons_succ]
            refine takeW 5 ?_ rfl (by kernel_rfl) (by kernel_rfl) (by kernel_rfl) (fun _ _ _ h => h) (by rfl) ?_ hS_ ?_
            rotate_left
            · intro w hSw
              try dsimp only at hSw
              go_simp
              with_reducible rfl
            try simp only [Act.put, List.setIfInBounds_toArray, List.set_cons_zero, List.set_cons_succ]
            refine takeW 6 ?_ rfl (by kernel_rfl) (by kernel_rfl) (by kernel_rfl) (fun _ _ _ h => h) (by rfl) ?_ hS_ ?_
            rotate_left
            · intro w hSw
              try dsimp only at hSw
              go_simp
              with_reducible rfl
            try simp only [Act.put, List.setIfInBounds_toArray, List.set_cons_zero, List.set_cons_succ]
            refine takeW 7 ?_ rfl (by kernel_rfl) (by kernel_rfl) (by kernel_rfl) (fun _ _ _ h => h) (by rfl) ?_ hS_ ?_
            rotate_left
            · intro w hSw
              try dsimp only at hSw
              go_simp
              with_reducible rfl
            try simp only [Act.put, List.setIfInBounds_toArray, List.set_cons_zero, List.set_cons_succ]
            refine takeW 8 ?_ rfl (by kernel_rfl) (by kernel_rfl) (by kernel_rfl) (fun _ _ _ h => h) (by rfl) ?_ hS_ ?_
            rotate_left
            · intro w hSw
              try dsimp only at hSw
              go_simp
              with_reducible rfl
            try simp only [Act.put, List.setIfInBounds_toArray, List.set_cons_zero, List.set_cons_succ]
            refine takeW 9 ?_ rfl (by kernel_rfl) (by kernel_rfl) (by kernel_rfl) (fun _ _ _ h => h) (by rfl) ?_ hS_ ?_
            rotate_left
            · intro w hSw
              try dsimp only at hSw
              go_simp
              with_reducible rfl
            try simp only [Act.put, List.setIfInBounds_toArray, List.set_cons_zero, List.set_cons_succ]
            refine takeW 10 ?_ rfl (by kernel_rfl) (by kernel_rfl) (by kernel_rfl) (fun _ _ _ h => h) (by rfl) ?_ hS_ ?_
            rotate_left
            · intro w hSw
              try dsimp only at hSw
              go_simp
              with_reducible rfl
            try simp only [Act.put, List.setIfInBounds_toArray, List.set_cons_zero, List.set_cons_succ]
            refine takeW 11 ?_ rfl (by kernel_rfl) (by kernel_rfl) (by kernel_rfl) (fun _ _ _ h => h) (by rfl) ?_ hS_ ?_
            rotate_left
            · intro w hSw
              try dsimp only at hSw
              go_simp
              with_reducible rfl
            try simp only [Act.put, List.setIfInBounds_toArray, List.set_cons_zero, List.set_cons_succ]
            refine takeW 12 ?_ rfl (by kernel_rfl) (by kernel_rfl) (by kernel_rfl) (fun _ _ _ h => h) (by rfl) ?_ hS_ ?_
            rotate_left
            · intro w hSw
              try dsimp only at hSw
              go_simp
              with_reducible rfl
            try simp only [Act.put, List.setIfInBounds_toArray, List.set_cons_zero, List.set_cons_succ]
            refine takeW 13 ?_ rfl (by kernel_rfl) (by kernel_rfl) (by kernel_rfl) (fun _ _ _ h => h) (by rfl) ?_ hS_ ?_
            rotate_left
            · intro w hSw
              try dsimp only at hSw
              go_simp
              with_reducible rfl
            try simp only [Act.put, List.setIfInBounds_toArray, List.set_cons_zero, List.set_cons_succ]
            refine takeW 14 ?_ rfl (by kernel_rfl) (by kernel_rfl) (by kernel_rfl) (fun _ _ _ h => h) (by rfl) ?_ hS_ ?_
            rotate_left
            · intro w hSw
              try dsimp only at hSw
              go_simp
              with_reducible rfl
            try simp only [Act.put, List.setIfInBounds_toArray, List.set_cons_zero, List.set_cons_succ]
            refine takeW 15 ?_ rfl (by kernel_rfl) (by kernel_rfl) (by kernel_rfl) (fun _ _ _ h => h) (by rfl) ?_ hS_ ?_
            rotate_left
            · intro w hSw
              try dsimp only at hSw
              go_simp
              with_reducible rfl
            try simp only [Act.put, List.setIfInBounds_toArray, List.set_cons_zero, List.set_cons_succ]
            refine wpAnyH_done (by kernel_rfl) ?_ _
            have HBd := Hd.mk (HB.out.drew)
            have HN2 := Hd.mk (HNo.out (by omega))
            clear hS_ hS0
            go_wp2_with fail
            go_roundw
            case rel => exact ⟨q + 1, HLT.out, by go_num, by rw [HN2.out]; exact HOd.out, HBd.out⟩
            case measure => have := HLT.out; simp [intOf] <;> omega
        · obtain rfl : q = T.length := by omega
          rw [List.take_length] at HO
          obtain ⟨av, cv, rfl⟩ := SrcE.shape (OwnE.src HO.out)
          clear hO hB hlt hin
          go_wp2_with fail
          go_roundw
          case rel => exact ⟨k + 1, fromF m T, HKL.out, OwnE.src HO.out, app_apart HO.out HTL.out, HRZ, HRW, by rw [HTK.out]; exact HO2.out.below HB.out, HB2.out.trans (HB.out.mono HB2.out.size)⟩
          case measure => exact HRL.out
end Go.Proofs.Ytlblpmadehikgaa
