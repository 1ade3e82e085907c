/- The law CapsCloses. -/
import Derived.Test.YtinagiofolmhbaaC8
import Derived.Test.YtinagiofolmhbaaC3
namespace Go.Proofs.Ytinagiofolmhbaa
open Go.RowKit
set_option linter.unusedVariables false
set_option linter.unusedSimpArgs false


theorem swapL {y y2 : Lay} {A : World} {p1 p2 : Nat → Prop} {M M2 : Nat} {st st2 : St} (h : TabL y A p1 M st) (h2 : TabL y2 A p2 M2 st2) (hin : ∀ k, Foot y2 M2 k → p1 k) : Held (fun k => k < A.heap.size ∧ ¬ Foot y2 M2 k) A (fun W => TabL y W (fun _ => False) M st) := by
  intro W hW
  exact h.frame (fun k hk => hW.block k ⟨(h.foot k hk).2, fun hf => (h.foot k hk).1 (hin k hf)⟩) (fun k hk => hk.elim) (fun k hk hp => hp)
theorem beside2L {y : Lay} {w w' : World} {pr : Nat → Prop} {M : Nat} {st : St} (h : TabL y w' (fun k => k < w.heap.size) M st) : Held (grow pr w w') w' (fun W => TabL y W (fun k => k < w.heap.size) M st) := by
  intro W hW
  refine h.frame (fun k hk => hW.block k (.inr ?_)) (fun k hk => Nat.lt_of_lt_of_le (h.prs k hk) hW.size) (fun k hk => (h.foot k hk).1)
  have h1 := h.foot k hk
  exact ⟨Nat.le_of_not_lt h1.1, h1.2⟩
def cntP (p : Int) (L : List Hn) (k : Nat) : Nat := ((L.take k).filter (fun h => decide (h.port = p))).length
theorem cntP_succ (p : Int) {L : List Hn} {k : Nat} (hk : k < L.length) : cntP p L (k + 1) = if L[k].port = p then cntP p L k + 1 else cntP p L k := by
  unfold cntP
  rw [List.take_succ_eq_append_getElem hk, List.filter_append, List.length_append]
  split <;> rename_i h <;> simp [h]
theorem cntP_all (p : Int) (st : St) : cntP p (liveS st) (liveS st).length = (closeL st p).length := by
  unfold cntP closeL
  rw [List.take_length, List.length_map]
theorem close_has {st : St} (hok : Ok st) {p : Int} {h : Hn} (hm : h ∈ liveS st) : (closeL st p).contains h.ser = decide (h.port = p) := by
  rw [Bool.eq_iff_iff, List.contains_iff_mem, close_mem, decide_eq_true_eq]
  constructor
  · rintro ⟨u, hu, h1, h2⟩
    have : u = h := inc_inj hok.tr.inc hu hm h2
    rwa [this] at h1
  · exact fun h1 => ⟨h, hm, h1, rfl⟩
theorem close_le {st : St} (hok : Ok st) (p : Int) : (closeL st p).Pairwise (· ≤ ·) ∧ (closeL st p).length ≤ 256 := by
  unfold closeL
  refine ⟨inc_le (List.pairwise_map.2 (List.Pairwise.filter _ hok.tr.inc)), ?_⟩
  rw [List.length_map]
  exact Nat.le_trans (List.length_filter_le _ _) hok.live
theorem close_twice {st : St} (p : Int) : closeL (closeS st p) p = [] := by
  unfold closeL
  rw [List.map_eq_nil_iff, List.filter_eq_nil_iff]
  intro x hx hp
  unfold closeS at hx
  rw [live_take] at hx
  obtain ⟨h1, h2⟩ := List.mem_filter.1 hx
  have : (closeL st p).contains x.ser = true := List.contains_iff_mem.2 (close_mem.2 ⟨x, h1, by simpa using hp, rfl⟩)
  rw [this] at h2; cases h2
set_option maxRecDepth 100000 in
set_option maxHeartbeats 4000000 in
theorem closes_law {v : Value} {ls : List Sm} {w : World} (hl : SrcN sL w v ls) (pn : BitVec 8) : Calls Try.prog 3 #[v, h8 pn] w fun e w' => e = .returned (.bool true) ∧ Below w.heap.size w w' := by
  have FL := Hd.mk hl
  clear hl
  go_enter Try.func3, Try.ntmps3
  go_wp2_with fail
  refine (awake_any _).mono ?_
  rintro e w1 ⟨rfl, hB0⟩
  have HB0 := Hd.mk hB0
  clear hB0
  go_wp2_with fail
  refine (made_any (FL.out.below HB0.out)).mono ?_
  rintro e w2 ⟨M, rfl, hm, hB1⟩
  have HM0 := Hd.mk hm
  have FB0 := Hd.mk (Held.below (HB0.out.trans (hB1.mono HB0.out.size)) (pr := fun k => k < w1.heap.size) (fun k hk => Nat.lt_of_lt_of_le hk HB0.out.size))
  have HSH := Hd.mk (made_sh ls)
  have HFA := Hd.mk (made_fam ls)
  have HB01 : Hd (∀ k, k < w.heap.size → k < w1.heap.size) := ⟨fun k hk => Nat.lt_of_lt_of_le hk HB0.out.size⟩
  clear hm hB1 HB0 FL
  generalize madeS ls = st at *
  go_wp2_with fail
  obtain ⟨y0, hy0⟩ := HM0.out
  refine (copy_any hy0).mono ?_
  rintro e w3 ⟨M2, rfl, ⟨y2, hm2⟩, hB⟩
  have HF2 := Hd.mk (fun k hk => hm2.foot k hk)
  have FT2 := Hd.mk (beside2L (pr := fun k => k < w1.heap.size) hm2)
  have HI0 : Hd (∀ k, Foot y2 M2 k → (grow (fun k => k < w1.heap.size) w2 w3) k) := ⟨fun k hk => .inr ⟨Nat.le_of_not_lt (HF2.out k hk).1, (HF2.out k hk).2⟩⟩
  have HJ0 : Hd (∀ k, k < w.heap.size → (grow (fun k => k < w1.heap.size) w2 w3) k) := ⟨fun k hk => .inl (HB01.out k hk)⟩
  obtain ⟨hm, hs⟩ := HM0.out.protect hB
  have HW2 : Hd (w.heap.size ≤ w2.heap.size) := ⟨FB0.out.now.size⟩
  clear hm2 hB hy0
  have FB_3 := Hd.mk (FB0.out.step hs)
  have HM3 := Hd.mk hm
  clear FB0 HM0
  clear hs hm
  obtain ⟨n, hn⟩ : ∃ n, (liveS st).length = n := ⟨_, rfl⟩
  have HN := Hd.mk hn
  have hn256 : n ≤ 256 := by rw [← hn]; exact HSH.out.ok.live
  clear hn
  go_upto_region 10 with fail
  obtain ⟨p, hp⟩ : ∃ p, n8 (pn % 5#8) = p := ⟨_, rfl⟩
  try rw [hp]
  clear hp
  go_wp2_with fail
  refine (y_all HM3.out rfl).mono ?_
  rintro e w4 ⟨a4, c4, p4, rfl, hm, hf, hs⟩
  have FNh4 := Hd.mk hf
  clear hf
  have HSZ := Hd.mk hs.kept.size
  have HI5 : Hd (∀ k, Foot y2 M2 k → p4 k) := ⟨fun k hk => hs.more k (HI0.out k hk)⟩
  clear HI0
  have HJ5 : Hd (∀ k, k < w.heap.size → p4 k) := ⟨fun k hk => hs.more k (HJ0.out k hk)⟩
  clear HJ0
  have FB_5 := Hd.mk (FB_3.out.step hs)
  have FT_5 := Hd.mk (FT2.out.step hs)
  have HM5 := Hd.mk hm
  clear FB_3 FT2 HM3
  clear hs hm
  rw [HN.out]
  go_wp2_with fail
  refine (y_close HM5.out (l := closeL st p) (st' := closeS st p) rfl rfl).mono ?_
  rintro e w6 ⟨a6, c6, p6, rfl, hm, hf, hs⟩
  have FNo6 := Hd.mk hf
  clear hf
  have HI7 : Hd (∀ k, Foot y2 M2 k → p6 k) := ⟨fun k hk => hs.more k (HI5.out k hk)⟩
  clear HI5
  have HJ7 : Hd (∀ k, k < w.heap.size → p6 k) := ⟨fun k hk => hs.more k (HJ5.out k hk)⟩
  clear HJ5
  have FB_7 := Hd.mk (FB_5.out.step hs)
  have FT_7 := Hd.mk (FT_5.out.step hs)
  have Fh_7 := Hd.mk (FNh4.out.step hs)
  have HM7 := Hd.mk hm
  clear FB_5 FT_5 FNh4 HM5
  clear hs hm
  go_wp2_with fail
  have hyA := FT_7.out.now
  have HM20 : Hd (TabAt w6 (fun k => k < w6.heap.size ∧ ¬ Foot y2 M2 k) M2 (rootsK p (liveS st) st 0)) := ⟨⟨y2, hyA.wide⟩⟩
  obtain ⟨y1, hy1⟩ := HM7.out
  have HI1 : Hd (∀ k, Foot y1 M k → k < w6.heap.size ∧ ¬ Foot y2 M2 k ∧ ¬ k < w.heap.size) := ⟨fun k hk => ⟨(hy1.foot k hk).2, fun hf => (hy1.foot k hk).1 (HI7.out k hf), fun hl => (hy1.foot k hk).1 (HJ7.out k hl)⟩⟩
  have GT : Hd (Held (fun k => k < w6.heap.size ∧ ¬ Foot y2 M2 k) w6 (fun W => TabL y1 W (fun _ => False) M (closeS st p))) := ⟨swapL hy1 hyA HI7.out⟩
  have Gh : Hd (Held (fun k => k < w6.heap.size ∧ ¬ Foot y2 M2 k) w6 (fun W => OwnN hL W w3.heap.size 34 _ (liveS st))) := ⟨rowH_wide Fh_7.out.now (fun k hk => (HF2.out k hk).2)⟩
  have Go : Hd (Held (fun k => k < w6.heap.size ∧ ¬ Foot y2 M2 k) w6 (fun W => AppI W w4.heap.size _ (closeL st p))) := ⟨rowI_wide FNo6.out.now (fun k hk => Nat.lt_of_lt_of_le (HF2.out k hk).2 HSZ.out)⟩
  have GB : Hd (Held (fun k => k < w6.heap.size ∧ ¬ Foot y2 M2 k) w6 (fun W => Below w.heap.size w W)) := ⟨Held.below (pr := (fun k => k < w6.heap.size ∧ ¬ Foot y2 M2 k)) FB_7.out.now (fun k hk => ⟨Nat.lt_of_lt_of_le hk FB_7.out.now.size, fun hf => (HF2.out k hf).1 (Nat.lt_of_lt_of_le hk HW2.out)⟩)⟩
  have GK : Hd (Held (fun k => k < w6.heap.size ∧ ¬ Foot y2 M2 k) w6 (fun W => Kept (fun k => k < w6.heap.size ∧ ¬ Foot y2 M2 k) w6 W)) := ⟨fun W hW => hW⟩
  clear FT_7 Fh_7 FNo6 FB_7 HM7 HI7 HJ7 hyA hy1
  have HQ0 : Hd (Kept (fun k => k < w6.heap.size ∧ ¬ Foot y2 M2 k) w6 w6) := ⟨Kept.refl _ _⟩
  go_loopw [11, 39] (fun q i W => ∃ k : Nat, k ≤ n ∧ i = .int .i64 k ∧ q = .int .i64 (cntP p (liveS st) k : Nat) ∧ Hd (TabAt W (fun k => k < w6.heap.size ∧ ¬ Foot y2 M2 k) M2 (rootsK p (liveS st) st k)) ∧ Hd (Kept (fun k => k < w6.heap.size ∧ ¬ Foot y2 M2 k) w6 W)) (fun _ i _ => n - (intOf i).toNat)
  case atStart => exact ⟨0, by omega, rfl, rfl, HM20, HQ0⟩
  case round =>
    obtain ⟨k, hk, rfl, rfl, HR, HQ⟩ := hrel
    have HRI := Hd.mk (roots_inv (p := p) HSH.out.ok HFA.out k (by rw [HN.out]; exact hk))
    by_cases hlt : k < n
    · have hs := Step.of HQ.out
      have hm := HR.out
      have FT_28 := Hd.mk (GT.out.step hs)
      have Fh_28 := Hd.mk (Gh.out.step hs)
      have Fo_28 := Hd.mk (Go.out.step hs)
      have FB_28 := Hd.mk (GB.out.step hs)
      have FK_28 := Hd.mk (GK.out.step hs)
      have HM28 := Hd.mk hm
      clear GT Gh Go GB GK HM20
      clear hs hm
      have HP0 : Hd (∀ k, (fun k => k < w6.heap.size ∧ ¬ Foot y2 M2 k) k → (fun k => k < w6.heap.size ∧ ¬ Foot y2 M2 k) k) := ⟨fun k hk => hk⟩
      have hkl : k < (liveS st).length := by rw [HN.out]; exact hlt
      obtain ⟨b, off, hbe, _, hc⟩ := (OwnN.src Fh_28.out.now).at k hkl
      cases hbe
      have hmem := List.getElem_mem hkl
      have hcon := close_has (p := p) HSH.out.ok hmem
      have hsucc := rootsK_succ p (liveS st) st k hkl
      have hcnt := cntP_succ p hkl
      have hyet := fun h0 => HRI.out.yet k hkl (Nat.le_refl _) h0
      obtain ⟨⟨x0, x1, x2, x3, x4⟩, hx⟩ : ∃ x, (liveS st)[k] = x := ⟨_, rfl⟩
      rw [hx] at hc hmem hcon hsucc hcnt hyet
      simp only at hcon hsucc hcnt hyet
      have hxb := HSH.out.ok.lo _ (live_mem.1 hmem)
      have hn2 := HSH.out.ok.n2
      simp only at hxb
      have HXR : Hd (-9223372036854775808 ≤ x0 ∧ x0 ≤ 9223372036854775807) := ⟨by omega⟩
      have HCON := Hd.mk hcon
      have HSUC := Hd.mk hsucc
      have HCNT := Hd.mk hcnt
      have HYET := Hd.mk hyet
      have v0 : wr.cell? ⟨b, off + k * 5, none⟩ = some (.int .i64 x0) := hc 0 _ rfl
      have v1 : wr.cell? ⟨b, off + k * 5 + 1, none⟩ = some (.int .i64 x1) := hc 1 _ rfl
      have v2 : wr.cell? ⟨b, off + k * 5 + 2, none⟩ = some (.int .i64 x2) := hc 2 _ rfl
      have v3 : wr.cell? ⟨b, off + k * 5 + 3, none⟩ = some (.int .i64 x3) := hc 3 _ rfl
      have v4 : wr.cell? ⟨b, off + k * 5 + 4, none⟩ = some (h8 x4) := hc 4 _ rfl
      have k0 : (0 : Int) ≤ (k : Int) := by omega
      have k1 : (k : Int) < (n : Int) := by omega
      have HK : Hd ((0 : Int) ≤ (k : Int) ∧ (k : Int) < (n : Int) ∧ (k : Int) + 1 ≤ 9223372036854775807) := ⟨by omega, by omega, by omega⟩
      have HLT := Hd.mk hlt
      have HWK : Hd (IntKind.i64.wrap ((k : Int) + 1) = (k : Int) + 1) := ⟨IntWalk.i64_in _ ⟨by omega, by omega⟩⟩
      obtain ⟨q, hq⟩ : ∃ q, cntP p (liveS st) k = q := ⟨_, rfl⟩
      have hq256 : q ≤ 256 := by
        rw [← hq]
        unfold cntP
        exact Nat.le_trans (List.length_filter_le _ _) (Nat.le_trans (by rw [List.length_take]; omega) hn256)
      have HQB : Hd (IntKind.i64.wrap ((q : Int) + 1) = (q : Int) + 1) := ⟨IntWalk.i64_in _ ⟨by omega, by omega⟩⟩
      rw [hq] at HCNT ⊢
      obtain ⟨s2, hs2⟩ : ∃ s, rootsK p (liveS st) st k = s := ⟨_, rfl⟩
      have HS2 := Hd.mk hs2
      rw [hs2] at HSUC HYET HRI HM28
      clear hc hlt hk hkl hx hmem hcon hsucc hcnt hyet hxb hn2 hq hq256 hs2 HR
      by_cases hp : x2 = p
      · subst hp
        rw [if_pos rfl] at HCNT
        have HCON : Hd ((closeL st x2).contains x0 = true) := ⟨by rw [HCON.out]; simp⟩
        go_upto_region 16 with fail
        obtain ⟨W1, hW1⟩ : ∃ W, (wr.alloc (.cells #[.int .i64 x0, .int .i64 x1, .int .i64 x2, .int .i64 x3, h8 x4] 34)) = W := ⟨_, rfl⟩
        have hb1 : W1.heap[wr.heap.size]? = some (.cells #[.int .i64 x0, .int .i64 x1, .int .i64 x2, .int .i64 x3, h8 x4] 34 (0, 0)) := by rw [← hW1]; exact heap_alloc_new _ _
        have hB1 : Below wr.heap.size wr W1 := by rw [← hW1]; exact (Below.refl _ _).alloc (Nat.le_refl _) _
        rw [hW1]
        obtain ⟨X, hX⟩ : ∃ X, wr.heap.size = X := ⟨_, rfl⟩
        rw [hX] at hb1 ⊢
        have hS0 := nv_of (A := wr) (W := W1.drew) (X := X) (x0 := x0) (x1 := x1) (x2 := x2) (x3 := x3) (x4 := x4) hB1.drew hb1
        clear hW1 hb1 hB1 hX v0 v1 v2 v3 v4 k0 k1
        refine wp_region_held_drew (S := fun W => Below wr.heap.size wr W ∧ W.cell? ⟨X, 0, none⟩ = some (.int .i64 x0) ∧ W.cell? ⟨X, 1, none⟩ = some (.int .i64 x1) ∧ W.cell? ⟨X, 2, none⟩ = some (.int .i64 x2) ∧ W.cell? ⟨X, 3, none⟩ = some (.int .i64 x3) ∧ W.cell? ⟨X, 4, none⟩ = some (h8 x4)) (by kernel_rfl) (hS0) (fun hS_ => ?_)
        try dsimp only at hS_
        refine takeW 0 ?_ rfl (by kernel_rfl) (by kernel_rfl) (by kernel_rfl) (fun _ _ _ h => h) (by rfl) ?_ hS_ ?_
        rotate_left
        · intro w hSw
          try dsimp only at hSw
          go_simp
          with_reducible rfl
        try simp only [Act.put, List.setIfInBounds_toArray, List.set_cons_zero, List.set_cons_succ]
        refine takeW 1 ?_ rfl (by kernel_rfl) (by kernel_rfl) (by kernel_rfl) (fun _ _ _ h => h) (by rfl) ?_ hS_ ?_
        rotate_left
        · intro w hSw
          try dsimp only at hSw
          go_simp
          with_reducible rfl
        try simp only [Act.put, List.setIfInBounds_toArray, List.set_cons_zero, List.set_cons_succ]
        refine takeW 2 ?_ rfl (by kernel_rfl) (by kernel_rfl) (by kernel_rfl) (fun _ _ _ h => h) (by rfl) ?_ hS_ ?_
        rotate_left
        · intro w hSw
          try dsimp only at hSw
          go_simp
          with_reducible rfl
        try simp only [Act.put, List.setIfInBounds_toArray, List.set_cons_zero, List.set_cons_succ]
        refine takeW 3 ?_ rfl (by kernel_rfl) (by kernel_rfl) (by kernel_rfl) (fun _ _ _ h => h) (by rfl) ?_ hS_ ?_
        rotate_left
        · intro w hSw
          try dsimp only at hSw
          go_simp
          with_reducible rfl
        try simp only [Act.put, List.setIfInBounds_toArray, List.set_cons_zero, List.set_cons_succ]
        refine takeW 4 ?_ rfl (by kernel_rfl) (by kernel_rfl) (by kernel_rfl) (fun _ _ _ h => h) (by rfl) ?_ hS_ ?_
        rotate_left
        · intro w hSw
          try dsimp only at hSw
          go_simp
          with_reducible rfl
        try simp only [Act.put, List.setIfInBounds_toArray, List.set_cons_zero, List.set_cons_succ]
        refine takeW 5 ?_ rfl (by kernel_rfl) (by kernel_rfl) (by kernel_rfl) (fun _ _ _ h => h) (by rfl) ?_ hS_ ?_
        rotate_left
        · intro w hSw
          try dsimp only at hSw
          go_simp
          with_reducible rfl
        try simp only [Act.put, List.setIfInBounds_toArray, List.set_cons_zero, List.set_cons_succ]
        refine takeW 6 ?_ rfl (by kernel_rfl) (by kernel_rfl) (by kernel_rfl) (fun _ _ _ h => h) (by rfl) ?_ hS_ ?_
        rotate_left
        · intro w hSw
          try dsimp only at hSw
          go_simp
          with_reducible rfl
        try simp only [Act.put, List.setIfInBounds_toArray, List.set_cons_zero, List.set_cons_succ]
        refine wpAnyH_ready (rs := [7]) (by kernel_rfl) (by simp) (readyL rfl (fun K hK => ?_) AllReadyH.nil)
        go_simp
        refine (contains_at HCON.out (OwnE.src (Fo_28.out _ (HM28.out.below hS_.1).2.kept))).mono ?_
        rintro e wk ⟨rfl, hwk⟩
        subst hwk
        have hS2_ : Below wr.heap.size wr W1.drew ∧ W1.drew.cell? ⟨X, 0, none⟩ = some (.int .i64 x0) ∧ W1.drew.cell? ⟨X, 1, none⟩ = some (.int .i64 x1) ∧ W1.drew.cell? ⟨X, 2, none⟩ = some (.int .i64 x2) ∧ W1.drew.cell? ⟨X, 3, none⟩ = some (.int .i64 x3) ∧ W1.drew.cell? ⟨X, 4, none⟩ = some (h8 x4) := nv_keep hS_ (Below.refl _ _) hS_.1.size
        refine hK.out _ _ hS2_ (fun _ => ?_)
        clear hK K hS_
        have hS_ := hS2_
        clear hS2_
        try simp only [Act.put, List.setIfInBounds_toArray, List.set_cons_zero, List.set_cons_succ]
        refine takeW 8 ?_ rfl (by kernel_rfl) (by kernel_rfl) (by kernel_rfl) (fun _ _ _ h => h) (by rfl) ?_ hS_ ?_
        rotate_left
        · intro w hSw
          try dsimp only at hSw
          go_simp
          with_reducible rfl
        try simp only [Act.put, List.setIfInBounds_toArray, List.set_cons_zero, List.set_cons_succ]
        refine wpAnyH_done (by kernel_rfl) ?_ _
        clear hS0
        obtain ⟨hb2, q0, q1, q2, q3, q4⟩ := hS_
        obtain ⟨hm, hs⟩ := HM28.out.below hb2
        clear hb2
        have HP29 : Hd (∀ k, (fun k => k < w6.heap.size ∧ ¬ Foot y2 M2 k) k → (fun k => k < w6.heap.size ∧ ¬ Foot y2 M2 k) k) := ⟨fun k hk => hs.more k (HP0.out k hk)⟩
        clear HP0
        have FT_29 := Hd.mk (FT_28.out.step hs)
        have Fh_29 := Hd.mk (Fh_28.out.step hs)
        have Fo_29 := Hd.mk (Fo_28.out.step hs)
        have FB_29 := Hd.mk (FB_28.out.step hs)
        have FK_29 := Hd.mk (FK_28.out.step hs)
        have HM29 := Hd.mk hm
        clear FT_28 Fh_28 Fo_28 FB_28 FK_28 HM28
        clear hs hm
        clear q3 q4
        have hqb := HQB.out
        by_cases h0 : x1 = 0
        · subst h0
          rw [if_pos ⟨rfl, rfl⟩] at HSUC
          have HGE : Hd (getE s2 x0 = 0) := ⟨(getE_live HRI.out.ok (HYET.out rfl)).1⟩
          go_wp2_with fail
          refine (y_revoke HM29.out HXR.out rfl HGE.out rfl).mono ?_
          rintro e w30 ⟨a30, c30, p30, rfl, hm, hf, hs⟩
          have FNrv30 := Hd.mk hf
          clear hf
          have HP31 : Hd (∀ k, (fun k => k < w6.heap.size ∧ ¬ Foot y2 M2 k) k → p30 k) := ⟨fun k hk => hs.more k (HP29.out k hk)⟩
          clear HP29
          have FT_31 := Hd.mk (FT_29.out.step hs)
          have Fh_31 := Hd.mk (Fh_29.out.step hs)
          have Fo_31 := Hd.mk (Fo_29.out.step hs)
          have FB_31 := Hd.mk (FB_29.out.step hs)
          have FK_31 := Hd.mk (FK_29.out.step hs)
          have HM31 := Hd.mk hm
          clear FT_29 Fh_29 Fo_29 FB_29 FK_29 HM29
          clear hs hm
          clear FNrv30
          clear q0 q1 q2
          have hwk := HWK.out
          go_wp2_with fail
          go_roundw
          case rel => exact ⟨k + 1, by have := HLT.out; omega, by go_num, by rw [HCNT.out]; go_num, ⟨by rw [HSUC.out]; exact HM31.out.less HP31.out⟩, ⟨FK_31.out.now⟩⟩
          case measure => have := HLT.out; simp [intOf]; omega
        · rw [if_neg (fun h => h0 h.2)] at HSUC
          have d1 : decide (x1 = 0) = false := decide_eq_false h0
          have d2 : (x1 == 0) = false := by simpa using h0
          clear h0
          have hwk := HWK.out
          go_wp2_with fail
          go_roundw
          case rel => exact ⟨k + 1, by have := HLT.out; omega, by go_num, by rw [HCNT.out]; go_num, ⟨by rw [HSUC.out]; exact HM29.out.less HP29.out⟩, ⟨FK_29.out.now⟩⟩
          case measure => have := HLT.out; simp [intOf]; omega
      · rw [if_neg (fun h => hp h.1)] at HSUC
        rw [if_neg hp] at HCNT
        have HCON : Hd ((closeL st p).contains x0 = false) := ⟨by rw [HCON.out]; simpa using hp⟩
        have d1 : decide (x2 = p) = false := decide_eq_false hp
        have d2 : (x2 == p) = false := by simpa using hp
        clear hp
        go_upto_region 16 with fail
        obtain ⟨W1, hW1⟩ : ∃ W, (wr.alloc (.cells #[.int .i64 x0, .int .i64 x1, .int .i64 x2, .int .i64 x3, h8 x4] 34)) = W := ⟨_, rfl⟩
        have hb1 : W1.heap[wr.heap.size]? = some (.cells #[.int .i64 x0, .int .i64 x1, .int .i64 x2, .int .i64 x3, h8 x4] 34 (0, 0)) := by rw [← hW1]; exact heap_alloc_new _ _
        have hB1 : Below wr.heap.size wr W1 := by rw [← hW1]; exact (Below.refl _ _).alloc (Nat.le_refl _) _
        rw [hW1]
        obtain ⟨X, hX⟩ : ∃ X, wr.heap.size = X := ⟨_, rfl⟩
        rw [hX] at hb1 ⊢
        have hS0 := nv_of (A := wr) (W := W1.drew) (X := X) (x0 := x0) (x1 := x1) (x2 := x2) (x3 := x3) (x4 := x4) hB1.drew hb1
        clear hW1 hb1 hB1 hX v0 v1 v2 v3 v4 k0 k1
        refine wp_region_held_drew (S := fun W => Below wr.heap.size wr W ∧ W.cell? ⟨X, 0, none⟩ = some (.int .i64 x0) ∧ W.cell? ⟨X, 1, none⟩ = some (.int .i64 x1) ∧ W.cell? ⟨X, 2, none⟩ = some (.int .i64 x2) ∧ W.cell? ⟨X, 3, none⟩ = some (.int .i64 x3) ∧ W.cell? ⟨X, 4, none⟩ = some (h8 x4)) (by kernel_rfl) (hS0) (fun hS_ => ?_)
        try dsimp only at hS_
        refine takeW 0 ?_ rfl (by kernel_rfl) (by kernel_rfl) (by kernel_rfl) (fun _ _ _ h => h) (by rfl) ?_ hS_ ?_
        rotate_left
        · intro w hSw
          try dsimp only at hSw
          go_simp
          with_reducible rfl
        try simp only [Act.put, List.setIfInBounds_toArray, List.set_cons_zero, List.set_cons_succ]
        refine takeW 1 ?_ rfl (by kernel_rfl) (by kernel_rfl) (by kernel_rfl) (fun _ _ _ h => h) (by rfl) ?_ hS_ ?_
        rotate_left
        · intro w hSw
          try dsimp only at hSw
          go_simp
          with_reducible rfl
        try simp only [Act.put, List.setIfInBounds_toArray, List.set_cons_zero, List.set_cons_succ]
        refine takeW 2 ?_ rfl (by kernel_rfl) (by kernel_rfl) (by kernel_rfl) (fun _ _ _ h => h) (by rfl) ?_ hS_ ?_
        rotate_left
        · intro w hSw
          try dsimp only at hSw
          go_simp
          with_reducible rfl
        try simp only [Act.put, List.setIfInBounds_toArray, List.set_cons_zero, List.set_cons_succ]
        refine takeW 3 ?_ rfl (by kernel_rfl) (by kernel_rfl) (by kernel_rfl) (fun _ _ _ h => h) (by rfl) ?_ hS_ ?_
        rotate_left
        · intro w hSw
          try dsimp only at hSw
          go_simp
          with_reducible rfl
        try simp only [Act.put, List.setIfInBounds_toArray, List.set_cons_zero, List.set_cons_succ]
        refine takeW 4 ?_ rfl (by kernel_rfl) (by kernel_rfl) (by kernel_rfl) (fun _ _ _ h => h) (by rfl) ?_ hS_ ?_
        rotate_left
        · intro w hSw
          try dsimp only at hSw
          go_simp
          with_reducible rfl
        try simp only [Act.put, List.setIfInBounds_toArray, List.set_cons_zero, List.set_cons_succ]
        refine takeW 5 ?_ rfl (by kernel_rfl) (by kernel_rfl) (by kernel_rfl) (fun _ _ _ h => h) (by rfl) ?_ hS_ ?_
        rotate_left
        · intro w hSw
          try dsimp only at hSw
          go_simp
          with_reducible rfl
        try simp only [Act.put, List.setIfInBounds_toArray, List.set_cons_zero, List.set_cons_succ]
        refine takeW 6 ?_ rfl (by kernel_rfl) (by kernel_rfl) (by kernel_rfl) (fun _ _ _ h => h) (by rfl) ?_ hS_ ?_
        rotate_left
        · intro w hSw
          try dsimp only at hSw
          go_simp
          with_reducible rfl
        try simp only [Act.put, List.setIfInBounds_toArray, List.set_cons_zero, List.set_cons_succ]
        refine wpAnyH_ready (rs := [7]) (by kernel_rfl) (by simp) (readyL rfl (fun K hK => ?_) AllReadyH.nil)
        go_simp
        refine (contains_at HCON.out (OwnE.src (Fo_28.out _ (HM28.out.below hS_.1).2.kept))).mono ?_
        rintro e wk ⟨rfl, hwk⟩
        subst hwk
        have hS2_ : Below wr.heap.size wr W1.drew ∧ W1.drew.cell? ⟨X, 0, none⟩ = some (.int .i64 x0) ∧ W1.drew.cell? ⟨X, 1, none⟩ = some (.int .i64 x1) ∧ W1.drew.cell? ⟨X, 2, none⟩ = some (.int .i64 x2) ∧ W1.drew.cell? ⟨X, 3, none⟩ = some (.int .i64 x3) ∧ W1.drew.cell? ⟨X, 4, none⟩ = some (h8 x4) := nv_keep hS_ (Below.refl _ _) hS_.1.size
        refine hK.out _ _ hS2_ (fun _ => ?_)
        clear hK K hS_
        have hS_ := hS2_
        clear hS2_
        try simp only [Act.put, List.setIfInBounds_toArray, List.set_cons_zero, List.set_cons_succ]
        refine takeW 8 ?_ rfl (by kernel_rfl) (by kernel_rfl) (by kernel_rfl) (fun _ _ _ h => h) (by rfl) ?_ hS_ ?_
        rotate_left
        · intro w hSw
          try dsimp only at hSw
          go_simp
          with_reducible rfl
        try simp only [Act.put, List.setIfInBounds_toArray, List.set_cons_zero, List.set_cons_succ]
        refine wpAnyH_done (by kernel_rfl) ?_ _
        clear hS0
        obtain ⟨hb2, q0, q1, q2, q3, q4⟩ := hS_
        obtain ⟨hm, hs⟩ := HM28.out.below hb2
        clear hb2
        have HP29 : Hd (∀ k, (fun k => k < w6.heap.size ∧ ¬ Foot y2 M2 k) k → (fun k => k < w6.heap.size ∧ ¬ Foot y2 M2 k) k) := ⟨fun k hk => hs.more k (HP0.out k hk)⟩
        clear HP0
        have FT_29 := Hd.mk (FT_28.out.step hs)
        have Fh_29 := Hd.mk (Fh_28.out.step hs)
        have Fo_29 := Hd.mk (Fo_28.out.step hs)
        have FB_29 := Hd.mk (FB_28.out.step hs)
        have FK_29 := Hd.mk (FK_28.out.step hs)
        have HM29 := Hd.mk hm
        clear FT_28 Fh_28 Fo_28 FB_28 FK_28 HM28
        clear hs hm
        clear q3 q4
        have hwk := HWK.out
        go_wp2_with fail
        go_roundw
        case rel => exact ⟨k + 1, by have := HLT.out; omega, by go_num, by rw [HCNT.out], ⟨by rw [HSUC.out]; exact HM29.out.less HP29.out⟩, ⟨FK_29.out.now⟩⟩
        case measure => have := HLT.out; simp [intOf]; omega
    · have hs := Step.of HQ.out
      have hm := HR.out
      have FT_28 := Hd.mk (GT.out.step hs)
      have Fh_28 := Hd.mk (Gh.out.step hs)
      have Fo_28 := Hd.mk (Go.out.step hs)
      have FB_28 := Hd.mk (GB.out.step hs)
      have FK_28 := Hd.mk (GK.out.step hs)
      have HM28 := Hd.mk hm
      clear GT Gh Go GB GK HM20
      clear hs hm
      have HP0 : Hd (∀ k, (fun k => k < w6.heap.size ∧ ¬ Foot y2 M2 k) k → (fun k => k < w6.heap.size ∧ ¬ Foot y2 M2 k) k) := ⟨fun k hk => hk⟩
      obtain rfl : k = n := by omega
      have hcnt := cntP_all p st
      rw [HN.out] at hcnt
      rw [hcnt]
      have hend := roots_end (p := p) HSH.out.ok HFA.out
      have hnx := HRI.out.nx
      rw [HN.out] at hend
      obtain ⟨s2, hs2⟩ : ∃ s, rootsK p (liveS st) st k = s := ⟨_, rfl⟩
      rw [hs2] at hend hnx HM28
      have HEND := Hd.mk hend
      have HNX := Hd.mk hnx
      obtain ⟨lc, hlc⟩ : ∃ l, closeL st p = l := ⟨_, rfl⟩
      have hcl := close_le HSH.out.ok p
      have hct := close_twice (st := st) p
      rw [hlc] at hcl Fo_28 ⊢
      obtain ⟨s1, hs1⟩ : ∃ s, closeS st p = s := ⟨_, rfl⟩
      have hnx1 : s1.next = st.next := by rw [← hs1]; rfl
      rw [hs1] at hct hend HEND FT_28
      have HCL := Hd.mk hcl
      have HCT := Hd.mk hct
      have HNX1 := Hd.mk hnx1
      clear hcnt hlt hk hend hnx hs2 hlc hcl hct hs1 hnx1 HR HRI
      go_wp2_with fail
      refine (sorted_any _ lc _ (OwnE.src Fo_28.out.now) HCL.out.1 (by have := HCL.out.2; omega)).mono ?_
      rintro e w29 ⟨rfl, hB⟩
      obtain ⟨hm, hs⟩ := HM28.out.below hB
      clear hB
      have HP30 : Hd (∀ k, (fun k => k < w6.heap.size ∧ ¬ Foot y2 M2 k) k → (fun k => k < w6.heap.size ∧ ¬ Foot y2 M2 k) k) := ⟨fun k hk => hs.more k (HP0.out k hk)⟩
      clear HP0
      have FT_30 := Hd.mk (FT_28.out.step hs)
      have Fh_30 := Hd.mk (Fh_28.out.step hs)
      have Fo_30 := Hd.mk (Fo_28.out.step hs)
      have FB_30 := Hd.mk (FB_28.out.step hs)
      have FK_30 := Hd.mk (FK_28.out.step hs)
      have HM30 := Hd.mk hm
      clear FT_28 Fh_28 Fo_28 FB_28 FK_28 HM28
      clear hs hm
      go_wp2_with fail
      refine (z_all (show TabAt _ _ _ _ from ⟨y1, FT_30.out.now⟩) rfl).mono ?_
      rintro e w31 ⟨a31, c31, rfl, hO, hB⟩
      obtain ⟨hm, hs⟩ := HM30.out.protect hB
      have FNa131 := Hd.mk (Held.ownH (pr := (fun k => k < w6.heap.size ∧ ¬ Foot y2 M2 k)) hO (Nat.le_refl _))
      clear hO hB
      have HP32 : Hd (∀ k, (fun k => k < w6.heap.size ∧ ¬ Foot y2 M2 k) k → (grow (fun k => k < w6.heap.size ∧ ¬ Foot y2 M2 k) w29 w31) k) := ⟨fun k hk => hs.more k (HP30.out k hk)⟩
      clear HP30
      have FT_32 := Hd.mk (FT_30.out.step hs)
      have Fh_32 := Hd.mk (Fh_30.out.step hs)
      have Fo_32 := Hd.mk (Fo_30.out.step hs)
      have FB_32 := Hd.mk (FB_30.out.step hs)
      have FK_32 := Hd.mk (FK_30.out.step hs)
      have HM32 := Hd.mk hm
      clear FT_30 Fh_30 Fo_30 FB_30 FK_30 HM30
      clear hs hm
      go_wp2_with fail
      refine (z_all HM32.out rfl).mono ?_
      rintro e w33 ⟨a33, c33, rfl, hO, hB⟩
      obtain ⟨hm, hs⟩ := HM32.out.protect hB
      have FNa233 := Hd.mk (Held.ownH (pr := (grow (fun k => k < w6.heap.size ∧ ¬ Foot y2 M2 k) w29 w31)) hO (Nat.le_refl _))
      clear hO hB
      have HP34 : Hd (∀ k, (fun k => k < w6.heap.size ∧ ¬ Foot y2 M2 k) k → (grow (grow (fun k => k < w6.heap.size ∧ ¬ Foot y2 M2 k) w29 w31) w31 w33) k) := ⟨fun k hk => hs.more k (HP32.out k hk)⟩
      clear HP32
      have FT_34 := Hd.mk (FT_32.out.step hs)
      have Fh_34 := Hd.mk (Fh_32.out.step hs)
      have Fo_34 := Hd.mk (Fo_32.out.step hs)
      have FB_34 := Hd.mk (FB_32.out.step hs)
      have FK_34 := Hd.mk (FK_32.out.step hs)
      have Fa1_34 := Hd.mk (FNa131.out.step hs)
      have HM34 := Hd.mk hm
      clear FT_32 Fh_32 Fo_32 FB_32 FK_32 FNa131 HM32
      clear hs hm
      have h_e := Hd.mk (equalH_at (l := liveS s1) (m := liveS s2) (b := true) (by rw [HEND.out]; simp) (OwnN.src Fa1_34.out.now) (OwnN.src FNa233.out.now))
      go_wp2_with fail
      refine (h_e.out).mono ?_
      rintro e w35 ⟨rfl, hB⟩
      obtain ⟨hm, hs⟩ := HM34.out.below hB
      clear hB
      have HP36 : Hd (∀ k, (fun k => k < w6.heap.size ∧ ¬ Foot y2 M2 k) k → (grow (grow (fun k => k < w6.heap.size ∧ ¬ Foot y2 M2 k) w29 w31) w31 w33) k) := ⟨fun k hk => hs.more k (HP34.out k hk)⟩
      clear HP34
      have FT_36 := Hd.mk (FT_34.out.step hs)
      have Fh_36 := Hd.mk (Fh_34.out.step hs)
      have Fo_36 := Hd.mk (Fo_34.out.step hs)
      have FB_36 := Hd.mk (FB_34.out.step hs)
      have FK_36 := Hd.mk (FK_34.out.step hs)
      have Fa1_36 := Hd.mk (Fa1_34.out.step hs)
      have Fa2_36 := Hd.mk (FNa233.out.step hs)
      have HM36 := Hd.mk hm
      clear FT_34 Fh_34 Fo_34 FB_34 FK_34 Fa1_34 FNa233 HM34
      clear hs hm
      clear h_e
      clear Fa1_36 Fa2_36 Fh_36 Fo_36 FK_36
      go_wp2_with fail
      have hT1 := FT_36.out.now
      obtain ⟨y3, hy3⟩ := HM36.out
      have hin : ∀ k, Foot y1 M k → (grow (grow (fun k => k < w6.heap.size ∧ ¬ Foot y2 M2 k) w29 w31) w31 w33) k := fun k hk => HP36.out k ⟨(HI1.out k hk).1, (HI1.out k hk).2.1⟩
      have HT2 : Hd (Held (fun k => k < w35.heap.size ∧ ¬ Foot y1 M k) w35 (fun W => TabL y3 W (fun _ => False) M2 s2)) := ⟨swapL hy3 hT1 hin⟩
      have HB2 : Hd (Held (fun k => k < w35.heap.size ∧ ¬ Foot y1 M k) w35 (fun W => Below w.heap.size w W)) := ⟨Held.below FB_36.out.now (fun k hk => ⟨Nat.lt_of_lt_of_le hk FB_36.out.now.size, fun hf => (HI1.out k hf).2.2 hk⟩)⟩
      have HM1 : Hd (TabAt w35 (fun k => k < w35.heap.size ∧ ¬ Foot y1 M k) M s1) := ⟨⟨y1, hT1.wide⟩⟩
      clear hT1 hy3 hin FT_36 FB_36 HM36 HP36
      refine (y_close HM1.out (l := []) (st' := takeS s1 []) HCT.out (by unfold closeS; rw [HCT.out])).mono ?_
      rintro e w37 ⟨a37, c37, p37, rfl, hm, hf, hs⟩
      have FNcc37 := Hd.mk hf
      clear hf
      have FT_38 := Hd.mk (HT2.out.step hs)
      have FB_38 := Hd.mk (HB2.out.step hs)
      have HM38 := Hd.mk hm
      clear HT2 HB2 HM1
      clear hs hm
      clear FNcc37
      go_wp2_with fail
      refine (y_next HM38.out (n := st.next) HNX1.out).mono ?_
      rintro e w39 ⟨rfl, rfl⟩
      go_wp2_with fail
      refine (y_next (show TabAt _ _ _ _ from ⟨y3, FT_38.out.now⟩) (n := st.next) HNX.out).mono ?_
      rintro e wq ⟨rfl, rfl⟩
      go_wp2_with fail
      go_ret
      exact ⟨rfl, FB_38.out.now⟩
end Go.Proofs.Ytinagiofolmhbaa
