/- For, Rank, Nth, Next and Swaps against the reference: tells. -/
import Derived.Test.YtmahjgffadbdcaaH1
import Derived.Test.YtmahjgffadbdcaaG6
namespace Go.Proofs.Ytmahjgffadbdcaa
open Go.RowKit
set_option linter.unusedVariables false

theorem nthU_any (v : Value) (l : List Int) (r : Int) (w : World) (h : SrcI w v l) (hb : r ≤ 9223372036854775807) : Calls Try.prog 22 #[v, .int .i64 r] w fun e w' =>
    ∃ v', e = .returned (.tuple #[v', .int .i64 (ntE l r)]) ∧ OwnI w' w.heap.size v' (ntO l r) ∧ Below w.heap.size w w' := by
  by_cases hc : rightB l = true ∧ 0 ≤ r
  · obtain ⟨h1, h2⟩ := hc
    obtain ⟨n, rfl⟩ : ∃ n : Nat, r = n := ⟨r.toNat, by omega⟩
    exact nth_good v l n w h h1 (by omega)
  · refine (nth_bad v l r w h hc).mono ?_
    rintro e w' ⟨rfl, hB⟩
    have hz : (rightB l && decide (0 ≤ r)) = false := by
      rcases hr : rightB l with _ | _
      · rfl
      · simp only [Bool.true_and]; exact decide_eq_false (fun h => hc ⟨hr, h⟩)
    refine ⟨.slice none 0 0, ?_, ?_, hB⟩
    · rw [ntE, hz]; rfl
    · rw [ntO, hz]; exact .inl ⟨rfl, rfl⟩
theorem rproper_at {l : List Int} {b : Bool} (hl : okO l = b) {v : Value} {w : World} (h : SrcI w v l) : Calls Try.prog 36 #[v] w fun e w' => e = .returned (.bool b) ∧ Below w.heap.size w w' := by
  have := rproper_any v l w h
  rw [hl] at this; exact this
theorem rsorted_at {l S : List Int} (hS : sortV l = S) {v : Value} {w : World} (h : SrcI w v l) : Calls Try.prog 38 #[v] w fun e w' => ∃ v', e = .returned v' ∧ OwnI w' w.heap.size v' S ∧ Below w.heap.size w w' := by
  have := rsorted_any v l w h
  rw [hS] at this; exact this
theorem rrank_at {l : List Int} {r : Nat} (hok : OkO l) (hr : rankV l = r) {v : Value} {w : World} (h : SrcI w v l) : Calls Try.prog 40 #[v] w fun e w' => e = .returned (.int .i64 (r : Nat)) ∧ Below w.heap.size w w' := by
  have := rrank_any _ v l w rfl h hok
  rw [hr] at this; exact this
theorem rnth_at {l o : List Int} {r : Nat} (x : Int) (hx : x = (r : Nat)) (hl : l.length ≤ 20) (hr : r < fac l.length) (ho : nthV l.length l r = o) {v : Value} {w : World} (h : SrcI w v l) : Calls Try.prog 41 #[v, .int .i64 x] w fun e w' =>
    ∃ v', e = .returned (.tuple #[v', .bool true]) ∧ OwnI w' w.heap.size v' o ∧ Below w.heap.size w w' := by
  subst hx
  have := rnth_any v l r w h hl hr
  rw [ho] at this; exact this
theorem rnth_ov {l : List Int} {r : Nat} (x : Int) (hx : x = (r : Nat)) (hl : l.length ≤ 20) (hr : fac l.length ≤ r) {v : Value} {w : World} (h : SrcI w v l) : Calls Try.prog 41 #[v, .int .i64 x] w fun e w' =>
    ∃ v', e = .returned (.tuple #[v', .bool false]) ∧ OwnI w' w.heap.size v' [] ∧ Below w.heap.size w w' := by
  subst hx
  refine (rnth_over v l r w h hl hr).mono ?_
  rintro e w' ⟨rfl, hB⟩
  exact ⟨.slice none 0 0, rfl, .inl ⟨rfl, rfl⟩, hB⟩
theorem rswaps_at {a b : List Int} {n : Nat} (hp : a.Perm b) (hn : b.Nodup) (hl : a.length ≤ 1000) (hs : swapsV a b = n) {va vb : Value} {w : World} (ha : SrcI w va a) (hb : SrcI w vb b) : Calls Try.prog 42 #[va, vb] w fun e w' =>
    e = .returned (.int .i64 (n : Nat)) ∧ Below w.heap.size w w' := by
  have := rswaps_any va vb a b w ha hb hp hn hl
  rw [hs] at this; exact this
theorem rfor_at {l o : List Int} (hok : OkO l) (ho : l.take (needV l) = o) {v : Value} {w : World} (h : SrcI w v l) : Calls Try.prog 39 #[v] w fun e w' => ∃ v', e = .returned v' ∧ SrcI w' v' o ∧ Below w.heap.size w w' := by
  have := rfor_any v l w h hok
  rw [ho] at this; exact this
theorem nextU {l o : List Int} {e : Int} (ho : nxO l = o) (he : nxE l = e) {v : Value} {w : World} (h : SrcI w v l) : Calls Try.prog 24 #[v] w fun e' w' => ∃ v', e' = .returned (.tuple #[v', .int .i64 e]) ∧ OwnI w' w.heap.size v' o ∧ Below w.heap.size w w' := by
  have := next_any v l w h
  rw [ho, he] at this; exact this
theorem swapsU {l m : List Int} {n : Nat} {e : Int} (hn : swN l m = n) (he : swE l m = e) {v pv : Value} {w : World} (h : SrcI w v l) (hp : SrcI w pv m) : Calls Try.prog 25 #[v, pv] w fun e' w' => e' = .returned (.tuple #[.int .i64 (n : Nat), .int .i64 e]) ∧ Below w.heap.size w w' := by
  have := swaps_any v pv l m w h hp
  rw [hn, he] at this; exact this
theorem nthU {l o : List Int} {r e : Int} (ho : ntO l r = o) (he : ntE l r = e) (hb : r ≤ 9223372036854775807) {v : Value} {w : World} (h : SrcI w v l) : Calls Try.prog 22 #[v, .int .i64 r] w fun e' w' => ∃ v', e' = .returned (.tuple #[v', .int .i64 e]) ∧ OwnI w' w.heap.size v' o ∧ Below w.heap.size w w' := by
  have := nthU_any v l r w h hb
  rw [ho, he] at this; exact this
theorem perm_sort {l m : List Int} (hl : OkO l) (hm : OkO m) : l.Perm m ↔ sortV l = sortV m := by
  constructor
  · intro h; exact asc_unique (sort_asc m) (sort_asc l) ((sort_perm hl).trans (h.trans (sort_perm hm).symm))
  · intro h; exact (sort_perm hl).symm.trans (h ▸ sort_perm hm)

set_option maxRecDepth 100000 in
set_option maxHeartbeats 16000000 in
theorem tells_any (v pv : Value) (l m : List Int) (r : Int) (w : World) (h : SrcI w v l) (hp : SrcI w pv m) (hl : l.length ≤ 1000000) (hb0 : -9223372036854775808 ≤ r) (hb : r ≤ 9223372036854775807) :
    Calls Try.prog 20 #[v, pv, .int .i64 r] w fun e w' => e = .returned (.bool true) ∧ Below w.heap.size w w' := by
  have FL := Hd.mk h
  have FM := Hd.mk hp
  obtain ⟨a0, c0, rfl⟩ := h.shape
  obtain ⟨a1, c1, rfl⟩ := hp.shape
  clear h hp
  have HL := Hd.mk hl
  have HR0 := Hd.mk hb0
  have HR1 := Hd.mk hb
  clear hl hb hb0
  go_enter Try.func20, Try.ntmps20
  go_wp2_with fail
  refine (clone_app _ _ _ FL.out HL.out).mono ?_
  rintro e w1 ⟨v7, rfl, hO, hB⟩
  have FNo1 := Hd.mk ((OwnI.of hO).src)
  have HB2 := Hd.mk hB
  have Fl_2 := Hd.mk (FL.out.below hB)
  have Fm_2 := Hd.mk (FM.out.below hB)
  clear FL FM
  clear hB hO
  obtain ⟨a7, c7, rfl⟩ := FNo1.out.shape
  go_wp2_with fail
  rcases hok : okO l with _ | _
  · refine (for_bad hok FNo1.out).mono ?_
    rintro e w3 ⟨v8, rfl, hO, hB⟩
    have FNa3 := Hd.mk (hO.src)
    have HB4 := Hd.mk (ch4 HB2.out hB)
    have Fl_4 := Hd.mk (Fl_2.out.below hB)
    have Fm_4 := Hd.mk (Fm_2.out.below hB)
    have Fo_4 := Hd.mk (FNo1.out.below hB)
    clear HB2 Fl_2 Fm_2 FNo1
    clear hB hO
    obtain ⟨a8, c8, rfl⟩ := FNa3.out.shape
    go_wp2_with fail
    refine (rank_bad hok Fo_4.out).mono ?_
    rintro e w5 ⟨rfl, hB⟩
    have HB6 := Hd.mk (ch4 HB4.out hB)
    have Fl_6 := Hd.mk (Fl_4.out.below hB)
    have Fm_6 := Hd.mk (Fm_4.out.below hB)
    have Fo_6 := Hd.mk (Fo_4.out.below hB)
    have Fa_6 := Hd.mk (FNa3.out.below hB)
    clear HB4 Fl_4 Fm_4 Fo_4 FNa3
    clear hB
    go_wp2_with fail
    refine (next_bad hok Fo_6.out).mono ?_
    rintro e w7 ⟨v12, rfl, hO, hB⟩
    have FNx7 := Hd.mk (hO.src)
    have HB8 := Hd.mk (ch4 HB6.out hB)
    have Fl_8 := Hd.mk (Fl_6.out.below hB)
    have Fm_8 := Hd.mk (Fm_6.out.below hB)
    have Fo_8 := Hd.mk (Fo_6.out.below hB)
    have Fa_8 := Hd.mk (Fa_6.out.below hB)
    clear HB6 Fl_6 Fm_6 Fo_6 Fa_6
    clear hB hO
    obtain ⟨a12, c12, rfl⟩ := FNx7.out.shape
    go_wp2_with fail
    refine (swaps_bad (by rw [okS, hok]; rfl) Fo_8.out Fm_8.out).mono ?_
    rintro e w9 ⟨rfl, hB⟩
    have HB10 := Hd.mk (ch4 HB8.out hB)
    have Fl_10 := Hd.mk (Fl_8.out.below hB)
    have Fm_10 := Hd.mk (Fm_8.out.below hB)
    have Fo_10 := Hd.mk (Fo_8.out.below hB)
    have Fa_10 := Hd.mk (Fa_8.out.below hB)
    have Fx_10 := Hd.mk (FNx7.out.below hB)
    clear HB8 Fl_8 Fm_8 Fo_8 Fa_8 FNx7
    clear hB
    go_wp2_with fail
    refine (nth_bad _ _ r _ Fo_10.out (by rw [rightB, hok]; simp)).mono ?_
    rintro e w11 ⟨rfl, hB⟩
    have HB12 := Hd.mk (ch4 HB10.out hB)
    have Fl_12 := Hd.mk (Fl_10.out.below hB)
    have Fm_12 := Hd.mk (Fm_10.out.below hB)
    have Fo_12 := Hd.mk (Fo_10.out.below hB)
    have Fa_12 := Hd.mk (Fa_10.out.below hB)
    have Fx_12 := Hd.mk (Fx_10.out.below hB)
    clear HB10 Fl_10 Fm_10 Fo_10 Fa_10 Fx_10
    clear hB
    go_wp2_with fail
    refine (equal_at (b := true) (by simp) Fo_12.out Fl_12.out).mono ?_
    rintro e w13 ⟨rfl, hB⟩
    have HB14 := Hd.mk (ch4 HB12.out hB)
    have Fl_14 := Hd.mk (Fl_12.out.below hB)
    have Fm_14 := Hd.mk (Fm_12.out.below hB)
    have Fo_14 := Hd.mk (Fo_12.out.below hB)
    have Fa_14 := Hd.mk (Fa_12.out.below hB)
    have Fx_14 := Hd.mk (Fx_12.out.below hB)
    clear HB12 Fl_12 Fm_12 Fo_12 Fa_12 Fx_12
    clear hB
    go_wp2_with fail
    refine (rproper_at hok Fl_14.out).mono ?_
    rintro e w15 ⟨rfl, hB⟩
    have HB16 := Hd.mk (ch4 HB14.out hB)
    have Fl_16 := Hd.mk (Fl_14.out.below hB)
    have Fm_16 := Hd.mk (Fm_14.out.below hB)
    have Fo_16 := Hd.mk (Fo_14.out.below hB)
    have Fa_16 := Hd.mk (Fa_14.out.below hB)
    have Fx_16 := Hd.mk (Fx_14.out.below hB)
    clear HB14 Fl_14 Fm_14 Fo_14 Fa_14 Fx_14
    clear hB
    go_wp2_with fail
    go_ret
    exact ⟨rfl, HB16.out⟩
  · obtain ⟨NE, hNE⟩ : ∃ x, l.take (needV l) = x := ⟨_, rfl⟩
    have HNE := Hd.mk hNE
    clear hNE
    obtain ⟨rr, hrr⟩ : ∃ x, rankV l = x := ⟨_, rfl⟩
    have HRK := Hd.mk hrr
    clear hrr
    obtain ⟨nx, hnx⟩ : ∃ x, nxO l = x := ⟨_, rfl⟩
    have HNX := Hd.mk hnx
    clear hnx
    obtain ⟨ne, hne⟩ : ∃ x, nxE l = x := ⟨_, rfl⟩
    have HNEE := Hd.mk hne
    clear hne
    obtain ⟨sn, hsn⟩ : ∃ x, swN l m = x := ⟨_, rfl⟩
    have HSN := Hd.mk hsn
    clear hsn
    obtain ⟨se, hse⟩ : ∃ x, swE l m = x := ⟨_, rfl⟩
    have HSE := Hd.mk hse
    clear hse
    obtain ⟨no, hno⟩ : ∃ x, ntO l r = x := ⟨_, rfl⟩
    have HNO := Hd.mk hno
    clear hno
    obtain ⟨nte, hnte⟩ : ∃ x, ntE l r = x := ⟨_, rfl⟩
    have HNTE := Hd.mk hnte
    clear hnte
    obtain ⟨S, hS⟩ : ∃ x, sortV l = x := ⟨_, rfl⟩
    have HS := Hd.mk hS
    clear hS
    have HOK := Hd.mk hok
    have HK : Hd (OkO l) := ⟨of_decide_eq_true hok⟩
    clear hok
    have hrr : rr ≤ 20922789888000 := by have h1 := rank_lt l; have h2 := fac_mono HK.out.len; rw [fac16] at h2; rw [HRK.out] at h1; omega
    refine (for_at HOK.out HNE.out FNo1.out).mono ?_
    rintro e w3 ⟨v8, rfl, hO, hB⟩
    have FNa3 := Hd.mk (hO.src)
    have HB4 := Hd.mk (ch4 HB2.out hB)
    have Fl_4 := Hd.mk (Fl_2.out.below hB)
    have Fm_4 := Hd.mk (Fm_2.out.below hB)
    have Fo_4 := Hd.mk (FNo1.out.below hB)
    clear HB2 Fl_2 Fm_2 FNo1
    clear hB hO
    obtain ⟨a8, c8, rfl⟩ := FNa3.out.shape
    go_wp2_with fail
    refine (rank_at HOK.out HRK.out Fo_4.out).mono ?_
    rintro e w5 ⟨rfl, hB⟩
    have HB6 := Hd.mk (ch4 HB4.out hB)
    have Fl_6 := Hd.mk (Fl_4.out.below hB)
    have Fm_6 := Hd.mk (Fm_4.out.below hB)
    have Fo_6 := Hd.mk (Fo_4.out.below hB)
    have Fa_6 := Hd.mk (FNa3.out.below hB)
    clear HB4 Fl_4 Fm_4 Fo_4 FNa3
    clear hB
    go_wp2_with fail
    refine (nextU HNX.out HNEE.out Fo_6.out).mono ?_
    rintro e w7 ⟨v12, rfl, hO, hB⟩
    have FNx7 := Hd.mk (hO.src)
    have HB8 := Hd.mk (ch4 HB6.out hB)
    have Fl_8 := Hd.mk (Fl_6.out.below hB)
    have Fm_8 := Hd.mk (Fm_6.out.below hB)
    have Fo_8 := Hd.mk (Fo_6.out.below hB)
    have Fa_8 := Hd.mk (Fa_6.out.below hB)
    clear HB6 Fl_6 Fm_6 Fo_6 Fa_6
    clear hB hO
    obtain ⟨a12, c12, rfl⟩ := FNx7.out.shape
    go_wp2_with fail
    refine (swapsU HSN.out HSE.out Fo_8.out Fm_8.out).mono ?_
    rintro e w9 ⟨rfl, hB⟩
    have HB10 := Hd.mk (ch4 HB8.out hB)
    have Fl_10 := Hd.mk (Fl_8.out.below hB)
    have Fm_10 := Hd.mk (Fm_8.out.below hB)
    have Fo_10 := Hd.mk (Fo_8.out.below hB)
    have Fa_10 := Hd.mk (Fa_8.out.below hB)
    have Fx_10 := Hd.mk (FNx7.out.below hB)
    clear HB8 Fl_8 Fm_8 Fo_8 Fa_8 FNx7
    clear hB
    go_wp2_with fail
    refine (nthU HNO.out HNTE.out HR1.out Fo_10.out).mono ?_
    rintro e w11 ⟨v16, rfl, hO, hB⟩
    have FNn11 := Hd.mk (hO.src)
    have HB12 := Hd.mk (ch4 HB10.out hB)
    have Fl_12 := Hd.mk (Fl_10.out.below hB)
    have Fm_12 := Hd.mk (Fm_10.out.below hB)
    have Fo_12 := Hd.mk (Fo_10.out.below hB)
    have Fa_12 := Hd.mk (Fa_10.out.below hB)
    have Fx_12 := Hd.mk (Fx_10.out.below hB)
    clear HB10 Fl_10 Fm_10 Fo_10 Fa_10 Fx_10
    clear hB hO
    obtain ⟨a16, c16, rfl⟩ := FNn11.out.shape
    go_wp2_with fail
    refine (equal_at (b := true) (by simp) Fo_12.out Fl_12.out).mono ?_
    rintro e w13 ⟨rfl, hB⟩
    have HB14 := Hd.mk (ch4 HB12.out hB)
    have Fl_14 := Hd.mk (Fl_12.out.below hB)
    have Fm_14 := Hd.mk (Fm_12.out.below hB)
    have Fo_14 := Hd.mk (Fo_12.out.below hB)
    have Fa_14 := Hd.mk (Fa_12.out.below hB)
    have Fx_14 := Hd.mk (Fx_12.out.below hB)
    have Fn_14 := Hd.mk (FNn11.out.below hB)
    clear HB12 Fl_12 Fm_12 Fo_12 Fa_12 Fx_12 FNn11
    clear hB
    go_wp2_with fail
    refine (rproper_at HOK.out Fl_14.out).mono ?_
    rintro e w15 ⟨rfl, hB⟩
    have HB16 := Hd.mk (ch4 HB14.out hB)
    have Fl_16 := Hd.mk (Fl_14.out.below hB)
    have Fm_16 := Hd.mk (Fm_14.out.below hB)
    have Fo_16 := Hd.mk (Fo_14.out.below hB)
    have Fa_16 := Hd.mk (Fa_14.out.below hB)
    have Fx_16 := Hd.mk (Fx_14.out.below hB)
    have Fn_16 := Hd.mk (Fn_14.out.below hB)
    clear HB14 Fl_14 Fm_14 Fo_14 Fa_14 Fx_14 Fn_14
    clear hB
    go_wp2_with fail
    refine (rsorted_at HS.out Fl_16.out).mono ?_
    rintro e w17 ⟨v18, rfl, hO, hB⟩
    have FNs17 := Hd.mk (hO.src)
    have HB18 := Hd.mk (ch4 HB16.out hB)
    have Fl_18 := Hd.mk (Fl_16.out.below hB)
    have Fm_18 := Hd.mk (Fm_16.out.below hB)
    have Fo_18 := Hd.mk (Fo_16.out.below hB)
    have Fa_18 := Hd.mk (Fa_16.out.below hB)
    have Fx_18 := Hd.mk (Fx_16.out.below hB)
    have Fn_18 := Hd.mk (Fn_16.out.below hB)
    clear HB16 Fl_16 Fm_16 Fo_16 Fa_16 Fx_16 Fn_16
    clear hB hO
    obtain ⟨a18, c18, rfl⟩ := FNs17.out.shape
    go_wp2_with fail
    refine (rfor_at HK.out HNE.out Fl_18.out).mono ?_
    rintro e w19 ⟨v99, rfl, hO, hB⟩
    have FNf19 := Hd.mk (hO)
    have HB20 := Hd.mk (ch4 HB18.out hB)
    have Fl_20 := Hd.mk (Fl_18.out.below hB)
    have Fm_20 := Hd.mk (Fm_18.out.below hB)
    have Fo_20 := Hd.mk (Fo_18.out.below hB)
    have Fa_20 := Hd.mk (Fa_18.out.below hB)
    have Fx_20 := Hd.mk (Fx_18.out.below hB)
    have Fn_20 := Hd.mk (Fn_18.out.below hB)
    have Fs_20 := Hd.mk (FNs17.out.below hB)
    clear HB18 Fl_18 Fm_18 Fo_18 Fa_18 Fx_18 Fn_18 FNs17
    clear hB hO
    obtain ⟨a99, c99, rfl⟩ := FNf19.out.shape
    go_wp2_with fail
    refine (equal_at (b := true) (by simp) Fa_20.out FNf19.out).mono ?_
    rintro e w21 ⟨rfl, hB⟩
    have HB22 := Hd.mk (ch4 HB20.out hB)
    have Fl_22 := Hd.mk (Fl_20.out.below hB)
    have Fm_22 := Hd.mk (Fm_20.out.below hB)
    have Fo_22 := Hd.mk (Fo_20.out.below hB)
    have Fa_22 := Hd.mk (Fa_20.out.below hB)
    have Fx_22 := Hd.mk (Fx_20.out.below hB)
    have Fn_22 := Hd.mk (Fn_20.out.below hB)
    have Fs_22 := Hd.mk (Fs_20.out.below hB)
    have Ff_22 := Hd.mk (FNf19.out.below hB)
    clear HB20 Fl_20 Fm_20 Fo_20 Fa_20 Fx_20 Fn_20 Fs_20 FNf19
    clear hB
    go_wp2_with fail
    clear Fa_22 Ff_22 Fo_22
    refine (rrank_at HK.out HRK.out Fl_22.out).mono ?_
    rintro e w23 ⟨rfl, hB⟩
    have HB24 := Hd.mk (ch4 HB22.out hB)
    have Fl_24 := Hd.mk (Fl_22.out.below hB)
    have Fm_24 := Hd.mk (Fm_22.out.below hB)
    have Fx_24 := Hd.mk (Fx_22.out.below hB)
    have Fn_24 := Hd.mk (Fn_22.out.below hB)
    have Fs_24 := Hd.mk (Fs_22.out.below hB)
    clear HB22 Fl_22 Fm_22 Fx_22 Fn_22 Fs_22
    clear hB
    go_wp2_with fail
    have HPS : Hd (l.Perm S) := ⟨by rw [← HS.out]; exact (sort_perm HK.out).symm⟩
    have HAS : Hd (asc S) := ⟨by rw [← HS.out]; exact sort_asc l⟩
    have HSL : Hd (S.length ≤ 20) := ⟨by have h1 := HPS.out.length_eq; have h2 := HK.out.len; omega⟩
    have hcast : (rr : Int) + 1 = ((rr + 1 : Nat) : Int) := by omega
    have HC := Hd.mk hcast
    clear hcast
    rcases next_nth HAS.out HPS.out with ⟨hz1, hz2⟩ | ⟨hz2, hz1⟩
    · obtain rfl : ne = 6 := by rw [← HNEE.out, nxE, HOK.out, hz1]; rfl
      obtain rfl : nx = [] := by rw [← HNX.out, nxO, HOK.out, hz1]; rfl
      have HOV : Hd (fac S.length ≤ rr + 1) := ⟨by rw [← hz2, HRK.out]; exact Nat.le_refl _⟩
      clear hz1 hz2
      refine (rnth_ov (r := rr + 1) _ HC.out HSL.out HOV.out Fs_24.out).mono ?_
      rintro e w25 ⟨v19, rfl, hO, hB⟩
      have FNy25 := Hd.mk (hO.src)
      have HB26 := Hd.mk (ch4 HB24.out hB)
      have Fl_26 := Hd.mk (Fl_24.out.below hB)
      have Fm_26 := Hd.mk (Fm_24.out.below hB)
      have Fx_26 := Hd.mk (Fx_24.out.below hB)
      have Fn_26 := Hd.mk (Fn_24.out.below hB)
      have Fs_26 := Hd.mk (Fs_24.out.below hB)
      clear HB24 Fl_24 Fm_24 Fx_24 Fn_24 Fs_24
      clear hB hO
      obtain ⟨a19, c19, rfl⟩ := FNy25.out.shape
      go_wp2_with fail
      refine (equal_at (b := true) (by simp) Fx_26.out FNy25.out).mono ?_
      rintro e w27 ⟨rfl, hB⟩
      have HB28 := Hd.mk (ch4 HB26.out hB)
      have Fl_28 := Hd.mk (Fl_26.out.below hB)
      have Fm_28 := Hd.mk (Fm_26.out.below hB)
      have Fx_28 := Hd.mk (Fx_26.out.below hB)
      have Fn_28 := Hd.mk (Fn_26.out.below hB)
      have Fs_28 := Hd.mk (Fs_26.out.below hB)
      have Fy_28 := Hd.mk (FNy25.out.below hB)
      clear HB26 Fl_26 Fm_26 Fx_26 Fn_26 Fs_26 FNy25
      clear hB
      go_wp2_with fail
      clear Fx_28 Fy_28
      rcases hom : okO m with _ | _
      · have hos : okS l m = false := by rw [okS, hom]; simp
        obtain rfl : se = 2 := by rw [← HSE.out, swE, hos]; rfl
        obtain rfl : sn = 0 := by rw [← HSN.out, swN, hos]; rfl
        have HOM := Hd.mk hom
        clear hom hos
        refine (rproper_at HOM.out Fm_28.out).mono ?_
        rintro e w29 ⟨rfl, hB⟩
        have HB30 := Hd.mk (ch4 HB28.out hB)
        have Fl_30 := Hd.mk (Fl_28.out.below hB)
        have Fm_30 := Hd.mk (Fm_28.out.below hB)
        have Fn_30 := Hd.mk (Fn_28.out.below hB)
        have Fs_30 := Hd.mk (Fs_28.out.below hB)
        clear HB28 Fl_28 Fm_28 Fn_28 Fs_28
        clear hB
        go_wp2_with fail
        rcases hrt : rightB l with _ | _
        · obtain rfl : nte = 2 := by rw [← HNTE.out, ntE, hrt]; rfl
          obtain rfl : no = [] := by rw [← HNO.out, ntO, hrt]; rfl
          have HRT := Hd.mk hrt
          clear hrt
          go_wp2_with fail
          refine (rright_at HRT.out Fl_30.out).mono ?_
          rintro e w31 ⟨rfl, hB⟩
          have HB32 := Hd.mk (ch4 HB30.out hB)
          have Fl_32 := Hd.mk (Fl_30.out.below hB)
          have Fm_32 := Hd.mk (Fm_30.out.below hB)
          have Fn_32 := Hd.mk (Fn_30.out.below hB)
          have Fs_32 := Hd.mk (Fs_30.out.below hB)
          clear HB30 Fl_30 Fm_30 Fn_30 Fs_30
          clear hB
          go_wp2_with fail
          go_ret
          exact ⟨rfl, HB32.out⟩
        · have HRT := Hd.mk hrt
          by_cases hneg : r < 0
          · have hdd : decide (0 ≤ r) = false := decide_eq_false (by omega)
            obtain rfl : nte = 2 := by rw [← HNTE.out, ntE, hrt, hdd]; rfl
            obtain rfl : no = [] := by rw [← HNO.out, ntO, hrt, hdd]; rfl
            clear hrt hdd
            go_wp2_with fail
            refine (rright_at HRT.out Fl_30.out).mono ?_
            rintro e w31 ⟨rfl, hB⟩
            have HB32 := Hd.mk (ch4 HB30.out hB)
            have Fl_32 := Hd.mk (Fl_30.out.below hB)
            have Fm_32 := Hd.mk (Fm_30.out.below hB)
            have Fn_32 := Hd.mk (Fn_30.out.below hB)
            have Fs_32 := Hd.mk (Fs_30.out.below hB)
            clear HB30 Fl_30 Fm_30 Fn_30 Fs_30
            clear hB
            go_wp2_with fail
            go_ret
            exact ⟨rfl, HB32.out⟩
          · have hdd : decide (0 ≤ r) = true := decide_eq_true (by omega)
            obtain ⟨q, hq⟩ : ∃ q : Nat, r = q := ⟨r.toNat, by omega⟩
            have hnn : (0 : Int) ≤ r := by omega
            have HQ := Hd.mk hq
            have HLL : Hd (l.length ≤ 20) := ⟨by have h2 := HK.out.len; omega⟩
            by_cases hqf : r.toNat < fac l.length
            · obtain rfl : nte = 0 := by rw [← HNTE.out, ntE, hrt, hdd]; simp only [Bool.and_self, if_true]; rw [if_pos (show r < ((fac l.length : Nat) : Int) by omega)]
              have HNV : Hd (nthV l.length l r.toNat = no) := ⟨by rw [← HNO.out, ntO, hrt, hdd]; simp only [Bool.and_self, if_true]; rw [if_pos (show r < ((fac l.length : Nat) : Int) by omega)]⟩
              have HQF := Hd.mk hqf
              clear hqf hrt hdd hq
              go_wp2_with fail
              refine (rright_at HRT.out Fl_30.out).mono ?_
              rintro e w31 ⟨rfl, hB⟩
              have HB32 := Hd.mk (ch4 HB30.out hB)
              have Fl_32 := Hd.mk (Fl_30.out.below hB)
              have Fm_32 := Hd.mk (Fm_30.out.below hB)
              have Fn_32 := Hd.mk (Fn_30.out.below hB)
              have Fs_32 := Hd.mk (Fs_30.out.below hB)
              clear HB30 Fl_30 Fm_30 Fn_30 Fs_30
              clear hB
              go_wp2_with fail
              refine (rnth_at (r := r.toNat) r (by omega) HLL.out HQF.out HNV.out Fl_32.out).mono ?_
              rintro e w33 ⟨v19, rfl, hO, hB⟩
              have FNk33 := Hd.mk (hO.src)
              have HB34 := Hd.mk (ch4 HB32.out hB)
              have Fl_34 := Hd.mk (Fl_32.out.below hB)
              have Fm_34 := Hd.mk (Fm_32.out.below hB)
              have Fn_34 := Hd.mk (Fn_32.out.below hB)
              have Fs_34 := Hd.mk (Fs_32.out.below hB)
              clear HB32 Fl_32 Fm_32 Fn_32 Fs_32
              clear hB hO
              obtain ⟨a19, c19, rfl⟩ := FNk33.out.shape
              go_wp2_with fail
              refine (equal_at (b := true) (by simp) Fn_34.out FNk33.out).mono ?_
              rintro e w35 ⟨rfl, hB⟩
              have HB36 := Hd.mk (ch4 HB34.out hB)
              have Fl_36 := Hd.mk (Fl_34.out.below hB)
              have Fm_36 := Hd.mk (Fm_34.out.below hB)
              have Fn_36 := Hd.mk (Fn_34.out.below hB)
              have Fs_36 := Hd.mk (Fs_34.out.below hB)
              have Fk_36 := Hd.mk (FNk33.out.below hB)
              clear HB34 Fl_34 Fm_34 Fn_34 Fs_34 FNk33
              clear hB
              go_wp2_with fail
              go_ret
              exact ⟨rfl, HB36.out⟩
            · obtain rfl : nte = 6 := by rw [← HNTE.out, ntE, hrt, hdd]; simp only [Bool.and_self, if_true]; rw [if_neg (show ¬ r < ((fac l.length : Nat) : Int) by omega)]
              have HNV : Hd ([] = no) := ⟨by rw [← HNO.out, ntO, hrt, hdd]; simp only [Bool.and_self, if_true]; rw [if_neg (show ¬ r < ((fac l.length : Nat) : Int) by omega)]⟩
              have HQF := Hd.mk hqf
              clear hqf hrt hdd hq
              obtain rfl := HNV.out
              go_wp2_with fail
              refine (rright_at HRT.out Fl_30.out).mono ?_
              rintro e w31 ⟨rfl, hB⟩
              have HB32 := Hd.mk (ch4 HB30.out hB)
              have Fl_32 := Hd.mk (Fl_30.out.below hB)
              have Fm_32 := Hd.mk (Fm_30.out.below hB)
              have Fn_32 := Hd.mk (Fn_30.out.below hB)
              have Fs_32 := Hd.mk (Fs_30.out.below hB)
              clear HB30 Fl_30 Fm_30 Fn_30 Fs_30
              clear hB
              go_wp2_with fail
              refine (rnth_ov (r := r.toNat) r (by omega) HLL.out (Nat.le_of_not_lt HQF.out) Fl_32.out).mono ?_
              rintro e w33 ⟨v19, rfl, hO, hB⟩
              have FNk33 := Hd.mk (hO.src)
              have HB34 := Hd.mk (ch4 HB32.out hB)
              have Fl_34 := Hd.mk (Fl_32.out.below hB)
              have Fm_34 := Hd.mk (Fm_32.out.below hB)
              have Fn_34 := Hd.mk (Fn_32.out.below hB)
              have Fs_34 := Hd.mk (Fs_32.out.below hB)
              clear HB32 Fl_32 Fm_32 Fn_32 Fs_32
              clear hB hO
              obtain ⟨a19, c19, rfl⟩ := FNk33.out.shape
              go_wp2_with fail
              refine (equal_at (b := true) (by simp) Fn_34.out FNk33.out).mono ?_
              rintro e w35 ⟨rfl, hB⟩
              have HB36 := Hd.mk (ch4 HB34.out hB)
              have Fl_36 := Hd.mk (Fl_34.out.below hB)
              have Fm_36 := Hd.mk (Fm_34.out.below hB)
              have Fn_36 := Hd.mk (Fn_34.out.below hB)
              have Fs_36 := Hd.mk (Fs_34.out.below hB)
              have Fk_36 := Hd.mk (FNk33.out.below hB)
              clear HB34 Fl_34 Fm_34 Fn_34 Fs_34 FNk33
              clear hB
              go_wp2_with fail
              go_ret
              exact ⟨rfl, HB36.out⟩
      · have HM : Hd (OkO m) := ⟨of_decide_eq_true hom⟩
        have HOM := Hd.mk hom
        clear hom
        obtain ⟨T, hT⟩ : ∃ x, sortV m = x := ⟨_, rfl⟩
        have HT := Hd.mk hT
        clear hT
        refine (rproper_at HOM.out Fm_28.out).mono ?_
        rintro e w29 ⟨rfl, hB⟩
        have HB30 := Hd.mk (ch4 HB28.out hB)
        have Fl_30 := Hd.mk (Fl_28.out.below hB)
        have Fm_30 := Hd.mk (Fm_28.out.below hB)
        have Fn_30 := Hd.mk (Fn_28.out.below hB)
        have Fs_30 := Hd.mk (Fs_28.out.below hB)
        clear HB28 Fl_28 Fm_28 Fn_28 Fs_28
        clear hB
        go_wp2_with fail
        refine (rsorted_at HT.out Fm_30.out).mono ?_
        rintro e w31 ⟨v98, rfl, hO, hB⟩
        have FNt31 := Hd.mk (hO.src)
        have HB32 := Hd.mk (ch4 HB30.out hB)
        have Fl_32 := Hd.mk (Fl_30.out.below hB)
        have Fm_32 := Hd.mk (Fm_30.out.below hB)
        have Fn_32 := Hd.mk (Fn_30.out.below hB)
        have Fs_32 := Hd.mk (Fs_30.out.below hB)
        clear HB30 Fl_30 Fm_30 Fn_30 Fs_30
        clear hB hO
        obtain ⟨a98, c98, rfl⟩ := FNt31.out.shape
        go_wp2_with fail
        by_cases hST : S = T
        · have HPM : Hd (l.Perm m) := ⟨(perm_sort HK.out HM.out).2 (by rw [HS.out, HT.out]; exact hST)⟩
          have hos : okS l m = true := by rw [okS, HOK.out, HOM.out, decide_eq_true HPM.out]; rfl
          obtain rfl : se = 0 := by rw [← HSE.out, swE, hos]; rfl
          have HSV : Hd (swapsV l m = sn) := ⟨by rw [← HSN.out, swN, hos]; rfl⟩
          have HLL2 : Hd (l.length ≤ 1000) := ⟨by have h2 := HK.out.len; omega⟩
          have HSTT := Hd.mk hST
          clear hST hos
          refine (equal_at (b := true) (decide_eq_true HSTT.out) Fs_32.out FNt31.out).mono ?_
          rintro e w33 ⟨rfl, hB⟩
          have HB34 := Hd.mk (ch4 HB32.out hB)
          have Fl_34 := Hd.mk (Fl_32.out.below hB)
          have Fm_34 := Hd.mk (Fm_32.out.below hB)
          have Fn_34 := Hd.mk (Fn_32.out.below hB)
          have Fs_34 := Hd.mk (Fs_32.out.below hB)
          have Ft_34 := Hd.mk (FNt31.out.below hB)
          clear HB32 Fl_32 Fm_32 Fn_32 Fs_32 FNt31
          clear hB
          go_wp2_with fail
          refine (rswaps_at HPM.out HM.out.nd HLL2.out HSV.out Fl_34.out Fm_34.out).mono ?_
          rintro e w35 ⟨rfl, hB⟩
          have HB36 := Hd.mk (ch4 HB34.out hB)
          have Fl_36 := Hd.mk (Fl_34.out.below hB)
          have Fm_36 := Hd.mk (Fm_34.out.below hB)
          have Fn_36 := Hd.mk (Fn_34.out.below hB)
          have Fs_36 := Hd.mk (Fs_34.out.below hB)
          have Ft_36 := Hd.mk (Ft_34.out.below hB)
          clear HB34 Fl_34 Fm_34 Fn_34 Fs_34 Ft_34
          clear hB
          go_wp2_with fail
          clear Ft_36 Fs_36
          rcases hrt : rightB l with _ | _
          · obtain rfl : nte = 2 := by rw [← HNTE.out, ntE, hrt]; rfl
            obtain rfl : no = [] := by rw [← HNO.out, ntO, hrt]; rfl
            have HRT := Hd.mk hrt
            clear hrt
            go_wp2_with fail
            refine (rright_at HRT.out Fl_36.out).mono ?_
            rintro e w37 ⟨rfl, hB⟩
            have HB38 := Hd.mk (ch4 HB36.out hB)
            have Fl_38 := Hd.mk (Fl_36.out.below hB)
            have Fm_38 := Hd.mk (Fm_36.out.below hB)
            have Fn_38 := Hd.mk (Fn_36.out.below hB)
            clear HB36 Fl_36 Fm_36 Fn_36
            clear hB
            go_wp2_with fail
            go_ret
            exact ⟨rfl, HB38.out⟩
          · have HRT := Hd.mk hrt
            by_cases hneg : r < 0
            · have hdd : decide (0 ≤ r) = false := decide_eq_false (by omega)
              obtain rfl : nte = 2 := by rw [← HNTE.out, ntE, hrt, hdd]; rfl
              obtain rfl : no = [] := by rw [← HNO.out, ntO, hrt, hdd]; rfl
              clear hrt hdd
              go_wp2_with fail
              refine (rright_at HRT.out Fl_36.out).mono ?_
              rintro e w37 ⟨rfl, hB⟩
              have HB38 := Hd.mk (ch4 HB36.out hB)
              have Fl_38 := Hd.mk (Fl_36.out.below hB)
              have Fm_38 := Hd.mk (Fm_36.out.below hB)
              have Fn_38 := Hd.mk (Fn_36.out.below hB)
              clear HB36 Fl_36 Fm_36 Fn_36
              clear hB
              go_wp2_with fail
              go_ret
              exact ⟨rfl, HB38.out⟩
            · have hdd : decide (0 ≤ r) = true := decide_eq_true (by omega)
              obtain ⟨q, hq⟩ : ∃ q : Nat, r = q := ⟨r.toNat, by omega⟩
              have hnn : (0 : Int) ≤ r := by omega
              have HQ := Hd.mk hq
              have HLL : Hd (l.length ≤ 20) := ⟨by have h2 := HK.out.len; omega⟩
              by_cases hqf : r.toNat < fac l.length
              · obtain rfl : nte = 0 := by rw [← HNTE.out, ntE, hrt, hdd]; simp only [Bool.and_self, if_true]; rw [if_pos (show r < ((fac l.length : Nat) : Int) by omega)]
                have HNV : Hd (nthV l.length l r.toNat = no) := ⟨by rw [← HNO.out, ntO, hrt, hdd]; simp only [Bool.and_self, if_true]; rw [if_pos (show r < ((fac l.length : Nat) : Int) by omega)]⟩
                have HQF := Hd.mk hqf
                clear hqf hrt hdd hq
                go_wp2_with fail
                refine (rright_at HRT.out Fl_36.out).mono ?_
                rintro e w37 ⟨rfl, hB⟩
                have HB38 := Hd.mk (ch4 HB36.out hB)
                have Fl_38 := Hd.mk (Fl_36.out.below hB)
                have Fm_38 := Hd.mk (Fm_36.out.below hB)
                have Fn_38 := Hd.mk (Fn_36.out.below hB)
                clear HB36 Fl_36 Fm_36 Fn_36
                clear hB
                go_wp2_with fail
                refine (rnth_at (r := r.toNat) r (by omega) HLL.out HQF.out HNV.out Fl_38.out).mono ?_
                rintro e w39 ⟨v19, rfl, hO, hB⟩
                have FNk39 := Hd.mk (hO.src)
                have HB40 := Hd.mk (ch4 HB38.out hB)
                have Fl_40 := Hd.mk (Fl_38.out.below hB)
                have Fm_40 := Hd.mk (Fm_38.out.below hB)
                have Fn_40 := Hd.mk (Fn_38.out.below hB)
                clear HB38 Fl_38 Fm_38 Fn_38
                clear hB hO
                obtain ⟨a19, c19, rfl⟩ := FNk39.out.shape
                go_wp2_with fail
                refine (equal_at (b := true) (by simp) Fn_40.out FNk39.out).mono ?_
                rintro e w41 ⟨rfl, hB⟩
                have HB42 := Hd.mk (ch4 HB40.out hB)
                have Fl_42 := Hd.mk (Fl_40.out.below hB)
                have Fm_42 := Hd.mk (Fm_40.out.below hB)
                have Fn_42 := Hd.mk (Fn_40.out.below hB)
                have Fk_42 := Hd.mk (FNk39.out.below hB)
                clear HB40 Fl_40 Fm_40 Fn_40 FNk39
                clear hB
                go_wp2_with fail
                go_ret
                exact ⟨rfl, HB42.out⟩
              · obtain rfl : nte = 6 := by rw [← HNTE.out, ntE, hrt, hdd]; simp only [Bool.and_self, if_true]; rw [if_neg (show ¬ r < ((fac l.length : Nat) : Int) by omega)]
                have HNV : Hd ([] = no) := ⟨by rw [← HNO.out, ntO, hrt, hdd]; simp only [Bool.and_self, if_true]; rw [if_neg (show ¬ r < ((fac l.length : Nat) : Int) by omega)]⟩
                have HQF := Hd.mk hqf
                clear hqf hrt hdd hq
                obtain rfl := HNV.out
                go_wp2_with fail
                refine (rright_at HRT.out Fl_36.out).mono ?_
                rintro e w37 ⟨rfl, hB⟩
                have HB38 := Hd.mk (ch4 HB36.out hB)
                have Fl_38 := Hd.mk (Fl_36.out.below hB)
                have Fm_38 := Hd.mk (Fm_36.out.below hB)
                have Fn_38 := Hd.mk (Fn_36.out.below hB)
                clear HB36 Fl_36 Fm_36 Fn_36
                clear hB
                go_wp2_with fail
                refine (rnth_ov (r := r.toNat) r (by omega) HLL.out (Nat.le_of_not_lt HQF.out) Fl_38.out).mono ?_
                rintro e w39 ⟨v19, rfl, hO, hB⟩
                have FNk39 := Hd.mk (hO.src)
                have HB40 := Hd.mk (ch4 HB38.out hB)
                have Fl_40 := Hd.mk (Fl_38.out.below hB)
                have Fm_40 := Hd.mk (Fm_38.out.below hB)
                have Fn_40 := Hd.mk (Fn_38.out.below hB)
                clear HB38 Fl_38 Fm_38 Fn_38
                clear hB hO
                obtain ⟨a19, c19, rfl⟩ := FNk39.out.shape
                go_wp2_with fail
                refine (equal_at (b := true) (by simp) Fn_40.out FNk39.out).mono ?_
                rintro e w41 ⟨rfl, hB⟩
                have HB42 := Hd.mk (ch4 HB40.out hB)
                have Fl_42 := Hd.mk (Fl_40.out.below hB)
                have Fm_42 := Hd.mk (Fm_40.out.below hB)
                have Fn_42 := Hd.mk (Fn_40.out.below hB)
                have Fk_42 := Hd.mk (FNk39.out.below hB)
                clear HB40 Fl_40 Fm_40 Fn_40 FNk39
                clear hB
                go_wp2_with fail
                go_ret
                exact ⟨rfl, HB42.out⟩
        · have hos : okS l m = false := by
            have hq : ¬ l.Perm m := fun h => hST (by rw [← HS.out, ← HT.out]; exact (perm_sort HK.out HM.out).1 h)
            rw [okS, HOK.out, HOM.out, decide_eq_false hq]; rfl
          obtain rfl : se = 2 := by rw [← HSE.out, swE, hos]; rfl
          obtain rfl : sn = 0 := by rw [← HSN.out, swN, hos]; rfl
          have HSTT := Hd.mk hST
          clear hST hos
          refine (equal_at (b := false) (decide_eq_false HSTT.out) Fs_32.out FNt31.out).mono ?_
          rintro e w33 ⟨rfl, hB⟩
          have HB34 := Hd.mk (ch4 HB32.out hB)
          have Fl_34 := Hd.mk (Fl_32.out.below hB)
          have Fm_34 := Hd.mk (Fm_32.out.below hB)
          have Fn_34 := Hd.mk (Fn_32.out.below hB)
          have Fs_34 := Hd.mk (Fs_32.out.below hB)
          have Ft_34 := Hd.mk (FNt31.out.below hB)
          clear HB32 Fl_32 Fm_32 Fn_32 Fs_32 FNt31
          clear hB
          go_wp2_with fail
          clear Ft_34 Fs_34
          rcases hrt : rightB l with _ | _
          · obtain rfl : nte = 2 := by rw [← HNTE.out, ntE, hrt]; rfl
            obtain rfl : no = [] := by rw [← HNO.out, ntO, hrt]; rfl
            have HRT := Hd.mk hrt
            clear hrt
            go_wp2_with fail
            refine (rright_at HRT.out Fl_34.out).mono ?_
            rintro e w35 ⟨rfl, hB⟩
            have HB36 := Hd.mk (ch4 HB34.out hB)
            have Fl_36 := Hd.mk (Fl_34.out.below hB)
            have Fm_36 := Hd.mk (Fm_34.out.below hB)
            have Fn_36 := Hd.mk (Fn_34.out.below hB)
            clear HB34 Fl_34 Fm_34 Fn_34
            clear hB
            go_wp2_with fail
            go_ret
            exact ⟨rfl, HB36.out⟩
          · have HRT := Hd.mk hrt
            by_cases hneg : r < 0
            · have hdd : decide (0 ≤ r) = false := decide_eq_false (by omega)
              obtain rfl : nte = 2 := by rw [← HNTE.out, ntE, hrt, hdd]; rfl
              obtain rfl : no = [] := by rw [← HNO.out, ntO, hrt, hdd]; rfl
              clear hrt hdd
              go_wp2_with fail
              refine (rright_at HRT.out Fl_34.out).mono ?_
              rintro e w35 ⟨rfl, hB⟩
              have HB36 := Hd.mk (ch4 HB34.out hB)
              have Fl_36 := Hd.mk (Fl_34.out.below hB)
              have Fm_36 := Hd.mk (Fm_34.out.below hB)
              have Fn_36 := Hd.mk (Fn_34.out.below hB)
              clear HB34 Fl_34 Fm_34 Fn_34
              clear hB
              go_wp2_with fail
              go_ret
              exact ⟨rfl, HB36.out⟩
            · have hdd : decide (0 ≤ r) = true := decide_eq_true (by omega)
              obtain ⟨q, hq⟩ : ∃ q : Nat, r = q := ⟨r.toNat, by omega⟩
              have hnn : (0 : Int) ≤ r := by omega
              have HQ := Hd.mk hq
              have HLL : Hd (l.length ≤ 20) := ⟨by have h2 := HK.out.len; omega⟩
              by_cases hqf : r.toNat < fac l.length
              · obtain rfl : nte = 0 := by rw [← HNTE.out, ntE, hrt, hdd]; simp only [Bool.and_self, if_true]; rw [if_pos (show r < ((fac l.length : Nat) : Int) by omega)]
                have HNV : Hd (nthV l.length l r.toNat = no) := ⟨by rw [← HNO.out, ntO, hrt, hdd]; simp only [Bool.and_self, if_true]; rw [if_pos (show r < ((fac l.length : Nat) : Int) by omega)]⟩
                have HQF := Hd.mk hqf
                clear hqf hrt hdd hq
                go_wp2_with fail
                refine (rright_at HRT.out Fl_34.out).mono ?_
                rintro e w35 ⟨rfl, hB⟩
                have HB36 := Hd.mk (ch4 HB34.out hB)
                have Fl_36 := Hd.mk (Fl_34.out.below hB)
                have Fm_36 := Hd.mk (Fm_34.out.below hB)
                have Fn_36 := Hd.mk (Fn_34.out.below hB)
                clear HB34 Fl_34 Fm_34 Fn_34
                clear hB
                go_wp2_with fail
                refine (rnth_at (r := r.toNat) r (by omega) HLL.out HQF.out HNV.out Fl_36.out).mono ?_
                rintro e w37 ⟨v19, rfl, hO, hB⟩
                have FNk37 := Hd.mk (hO.src)
                have HB38 := Hd.mk (ch4 HB36.out hB)
                have Fl_38 := Hd.mk (Fl_36.out.below hB)
                have Fm_38 := Hd.mk (Fm_36.out.below hB)
                have Fn_38 := Hd.mk (Fn_36.out.below hB)
                clear HB36 Fl_36 Fm_36 Fn_36
                clear hB hO
                obtain ⟨a19, c19, rfl⟩ := FNk37.out.shape
                go_wp2_with fail
                refine (equal_at (b := true) (by simp) Fn_38.out FNk37.out).mono ?_
                rintro e w39 ⟨rfl, hB⟩
                have HB40 := Hd.mk (ch4 HB38.out hB)
                have Fl_40 := Hd.mk (Fl_38.out.below hB)
                have Fm_40 := Hd.mk (Fm_38.out.below hB)
                have Fn_40 := Hd.mk (Fn_38.out.below hB)
                have Fk_40 := Hd.mk (FNk37.out.below hB)
                clear HB38 Fl_38 Fm_38 Fn_38 FNk37
                clear hB
                go_wp2_with fail
                go_ret
                exact ⟨rfl, HB40.out⟩
              · obtain rfl : nte = 6 := by rw [← HNTE.out, ntE, hrt, hdd]; simp only [Bool.and_self, if_true]; rw [if_neg (show ¬ r < ((fac l.length : Nat) : Int) by omega)]
                have HNV : Hd ([] = no) := ⟨by rw [← HNO.out, ntO, hrt, hdd]; simp only [Bool.and_self, if_true]; rw [if_neg (show ¬ r < ((fac l.length : Nat) : Int) by omega)]⟩
                have HQF := Hd.mk hqf
                clear hqf hrt hdd hq
                obtain rfl := HNV.out
                go_wp2_with fail
                refine (rright_at HRT.out Fl_34.out).mono ?_
                rintro e w35 ⟨rfl, hB⟩
                have HB36 := Hd.mk (ch4 HB34.out hB)
                have Fl_36 := Hd.mk (Fl_34.out.below hB)
                have Fm_36 := Hd.mk (Fm_34.out.below hB)
                have Fn_36 := Hd.mk (Fn_34.out.below hB)
                clear HB34 Fl_34 Fm_34 Fn_34
                clear hB
                go_wp2_with fail
                refine (rnth_ov (r := r.toNat) r (by omega) HLL.out (Nat.le_of_not_lt HQF.out) Fl_36.out).mono ?_
                rintro e w37 ⟨v19, rfl, hO, hB⟩
                have FNk37 := Hd.mk (hO.src)
                have HB38 := Hd.mk (ch4 HB36.out hB)
                have Fl_38 := Hd.mk (Fl_36.out.below hB)
                have Fm_38 := Hd.mk (Fm_36.out.below hB)
                have Fn_38 := Hd.mk (Fn_36.out.below hB)
                clear HB36 Fl_36 Fm_36 Fn_36
                clear hB hO
                obtain ⟨a19, c19, rfl⟩ := FNk37.out.shape
                go_wp2_with fail
                refine (equal_at (b := true) (by simp) Fn_38.out FNk37.out).mono ?_
                rintro e w39 ⟨rfl, hB⟩
                have HB40 := Hd.mk (ch4 HB38.out hB)
                have Fl_40 := Hd.mk (Fl_38.out.below hB)
                have Fm_40 := Hd.mk (Fm_38.out.below hB)
                have Fn_40 := Hd.mk (Fn_38.out.below hB)
                have Fk_40 := Hd.mk (FNk37.out.below hB)
                clear HB38 Fl_38 Fm_38 Fn_38 FNk37
                clear hB
                go_wp2_with fail
                go_ret
                exact ⟨rfl, HB40.out⟩
    · obtain rfl : ne = 0 := by rw [← HNEE.out, nxE, HOK.out, hz1]; rfl
      have HNN : Hd (nthV S.length S (rr + 1) = nx) := ⟨by rw [← HNX.out, nxO, HOK.out, hz1, HRK.out]; rfl⟩
      have HIN : Hd (rr + 1 < fac S.length) := ⟨by rw [← HRK.out]; exact hz2⟩
      clear hz1 hz2
      refine (rnth_at (r := rr + 1) _ HC.out HSL.out HIN.out HNN.out Fs_24.out).mono ?_
      rintro e w25 ⟨v19, rfl, hO, hB⟩
      have FNy25 := Hd.mk (hO.src)
      have HB26 := Hd.mk (ch4 HB24.out hB)
      have Fl_26 := Hd.mk (Fl_24.out.below hB)
      have Fm_26 := Hd.mk (Fm_24.out.below hB)
      have Fx_26 := Hd.mk (Fx_24.out.below hB)
      have Fn_26 := Hd.mk (Fn_24.out.below hB)
      have Fs_26 := Hd.mk (Fs_24.out.below hB)
      clear HB24 Fl_24 Fm_24 Fx_24 Fn_24 Fs_24
      clear hB hO
      obtain ⟨a19, c19, rfl⟩ := FNy25.out.shape
      go_wp2_with fail
      refine (equal_at (b := true) (by simp) Fx_26.out FNy25.out).mono ?_
      rintro e w27 ⟨rfl, hB⟩
      have HB28 := Hd.mk (ch4 HB26.out hB)
      have Fl_28 := Hd.mk (Fl_26.out.below hB)
      have Fm_28 := Hd.mk (Fm_26.out.below hB)
      have Fx_28 := Hd.mk (Fx_26.out.below hB)
      have Fn_28 := Hd.mk (Fn_26.out.below hB)
      have Fs_28 := Hd.mk (Fs_26.out.below hB)
      have Fy_28 := Hd.mk (FNy25.out.below hB)
      clear HB26 Fl_26 Fm_26 Fx_26 Fn_26 Fs_26 FNy25
      clear hB
      go_wp2_with fail
      clear Fx_28 Fy_28
      rcases hom : okO m with _ | _
      · have hos : okS l m = false := by rw [okS, hom]; simp
        obtain rfl : se = 2 := by rw [← HSE.out, swE, hos]; rfl
        obtain rfl : sn = 0 := by rw [← HSN.out, swN, hos]; rfl
        have HOM := Hd.mk hom
        clear hom hos
        refine (rproper_at HOM.out Fm_28.out).mono ?_
        rintro e w29 ⟨rfl, hB⟩
        have HB30 := Hd.mk (ch4 HB28.out hB)
        have Fl_30 := Hd.mk (Fl_28.out.below hB)
        have Fm_30 := Hd.mk (Fm_28.out.below hB)
        have Fn_30 := Hd.mk (Fn_28.out.below hB)
        have Fs_30 := Hd.mk (Fs_28.out.below hB)
        clear HB28 Fl_28 Fm_28 Fn_28 Fs_28
        clear hB
        go_wp2_with fail
        rcases hrt : rightB l with _ | _
        · obtain rfl : nte = 2 := by rw [← HNTE.out, ntE, hrt]; rfl
          obtain rfl : no = [] := by rw [← HNO.out, ntO, hrt]; rfl
          have HRT := Hd.mk hrt
          clear hrt
          go_wp2_with fail
          refine (rright_at HRT.out Fl_30.out).mono ?_
          rintro e w31 ⟨rfl, hB⟩
          have HB32 := Hd.mk (ch4 HB30.out hB)
          have Fl_32 := Hd.mk (Fl_30.out.below hB)
          have Fm_32 := Hd.mk (Fm_30.out.below hB)
          have Fn_32 := Hd.mk (Fn_30.out.below hB)
          have Fs_32 := Hd.mk (Fs_30.out.below hB)
          clear HB30 Fl_30 Fm_30 Fn_30 Fs_30
          clear hB
          go_wp2_with fail
          go_ret
          exact ⟨rfl, HB32.out⟩
        · have HRT := Hd.mk hrt
          by_cases hneg : r < 0
          · have hdd : decide (0 ≤ r) = false := decide_eq_false (by omega)
            obtain rfl : nte = 2 := by rw [← HNTE.out, ntE, hrt, hdd]; rfl
            obtain rfl : no = [] := by rw [← HNO.out, ntO, hrt, hdd]; rfl
            clear hrt hdd
            go_wp2_with fail
            refine (rright_at HRT.out Fl_30.out).mono ?_
            rintro e w31 ⟨rfl, hB⟩
            have HB32 := Hd.mk (ch4 HB30.out hB)
            have Fl_32 := Hd.mk (Fl_30.out.below hB)
            have Fm_32 := Hd.mk (Fm_30.out.below hB)
            have Fn_32 := Hd.mk (Fn_30.out.below hB)
            have Fs_32 := Hd.mk (Fs_30.out.below hB)
            clear HB30 Fl_30 Fm_30 Fn_30 Fs_30
            clear hB
            go_wp2_with fail
            go_ret
            exact ⟨rfl, HB32.out⟩
          · have hdd : decide (0 ≤ r) = true := decide_eq_true (by omega)
            obtain ⟨q, hq⟩ : ∃ q : Nat, r = q := ⟨r.toNat, by omega⟩
            have hnn : (0 : Int) ≤ r := by omega
            have HQ := Hd.mk hq
            have HLL : Hd (l.length ≤ 20) := ⟨by have h2 := HK.out.len; omega⟩
            by_cases hqf : r.toNat < fac l.length
            · obtain rfl : nte = 0 := by rw [← HNTE.out, ntE, hrt, hdd]; simp only [Bool.and_self, if_true]; rw [if_pos (show r < ((fac l.length : Nat) : Int) by omega)]
              have HNV : Hd (nthV l.length l r.toNat = no) := ⟨by rw [← HNO.out, ntO, hrt, hdd]; simp only [Bool.and_self, if_true]; rw [if_pos (show r < ((fac l.length : Nat) : Int) by omega)]⟩
              have HQF := Hd.mk hqf
              clear hqf hrt hdd hq
              go_wp2_with fail
              refine (rright_at HRT.out Fl_30.out).mono ?_
              rintro e w31 ⟨rfl, hB⟩
              have HB32 := Hd.mk (ch4 HB30.out hB)
              have Fl_32 := Hd.mk (Fl_30.out.below hB)
              have Fm_32 := Hd.mk (Fm_30.out.below hB)
              have Fn_32 := Hd.mk (Fn_30.out.below hB)
              have Fs_32 := Hd.mk (Fs_30.out.below hB)
              clear HB30 Fl_30 Fm_30 Fn_30 Fs_30
              clear hB
              go_wp2_with fail
              refine (rnth_at (r := r.toNat) r (by omega) HLL.out HQF.out HNV.out Fl_32.out).mono ?_
              rintro e w33 ⟨v19, rfl, hO, hB⟩
              have FNk33 := Hd.mk (hO.src)
              have HB34 := Hd.mk (ch4 HB32.out hB)
              have Fl_34 := Hd.mk (Fl_32.out.below hB)
              have Fm_34 := Hd.mk (Fm_32.out.below hB)
              have Fn_34 := Hd.mk (Fn_32.out.below hB)
              have Fs_34 := Hd.mk (Fs_32.out.below hB)
              clear HB32 Fl_32 Fm_32 Fn_32 Fs_32
              clear hB hO
              obtain ⟨a19, c19, rfl⟩ := FNk33.out.shape
              go_wp2_with fail
              refine (equal_at (b := true) (by simp) Fn_34.out FNk33.out).mono ?_
              rintro e w35 ⟨rfl, hB⟩
              have HB36 := Hd.mk (ch4 HB34.out hB)
              have Fl_36 := Hd.mk (Fl_34.out.below hB)
              have Fm_36 := Hd.mk (Fm_34.out.below hB)
              have Fn_36 := Hd.mk (Fn_34.out.below hB)
              have Fs_36 := Hd.mk (Fs_34.out.below hB)
              have Fk_36 := Hd.mk (FNk33.out.below hB)
              clear HB34 Fl_34 Fm_34 Fn_34 Fs_34 FNk33
              clear hB
              go_wp2_with fail
              go_ret
              exact ⟨rfl, HB36.out⟩
            · obtain rfl : nte = 6 := by rw [← HNTE.out, ntE, hrt, hdd]; simp only [Bool.and_self, if_true]; rw [if_neg (show ¬ r < ((fac l.length : Nat) : Int) by omega)]
              have HNV : Hd ([] = no) := ⟨by rw [← HNO.out, ntO, hrt, hdd]; simp only [Bool.and_self, if_true]; rw [if_neg (show ¬ r < ((fac l.length : Nat) : Int) by omega)]⟩
              have HQF := Hd.mk hqf
              clear hqf hrt hdd hq
              obtain rfl := HNV.out
              go_wp2_with fail
              refine (rright_at HRT.out Fl_30.out).mono ?_
              rintro e w31 ⟨rfl, hB⟩
              have HB32 := Hd.mk (ch4 HB30.out hB)
              have Fl_32 := Hd.mk (Fl_30.out.below hB)
              have Fm_32 := Hd.mk (Fm_30.out.below hB)
              have Fn_32 := Hd.mk (Fn_30.out.below hB)
              have Fs_32 := Hd.mk (Fs_30.out.below hB)
              clear HB30 Fl_30 Fm_30 Fn_30 Fs_30
              clear hB
              go_wp2_with fail
              refine (rnth_ov (r := r.toNat) r (by omega) HLL.out (Nat.le_of_not_lt HQF.out) Fl_32.out).mono ?_
              rintro e w33 ⟨v19, rfl, hO, hB⟩
              have FNk33 := Hd.mk (hO.src)
              have HB34 := Hd.mk (ch4 HB32.out hB)
              have Fl_34 := Hd.mk (Fl_32.out.below hB)
              have Fm_34 := Hd.mk (Fm_32.out.below hB)
              have Fn_34 := Hd.mk (Fn_32.out.below hB)
              have Fs_34 := Hd.mk (Fs_32.out.below hB)
              clear HB32 Fl_32 Fm_32 Fn_32 Fs_32
              clear hB hO
              obtain ⟨a19, c19, rfl⟩ := FNk33.out.shape
              go_wp2_with fail
              refine (equal_at (b := true) (by simp) Fn_34.out FNk33.out).mono ?_
              rintro e w35 ⟨rfl, hB⟩
              have HB36 := Hd.mk (ch4 HB34.out hB)
              have Fl_36 := Hd.mk (Fl_34.out.below hB)
              have Fm_36 := Hd.mk (Fm_34.out.below hB)
              have Fn_36 := Hd.mk (Fn_34.out.below hB)
              have Fs_36 := Hd.mk (Fs_34.out.below hB)
              have Fk_36 := Hd.mk (FNk33.out.below hB)
              clear HB34 Fl_34 Fm_34 Fn_34 Fs_34 FNk33
              clear hB
              go_wp2_with fail
              go_ret
              exact ⟨rfl, HB36.out⟩
      · have HM : Hd (OkO m) := ⟨of_decide_eq_true hom⟩
        have HOM := Hd.mk hom
        clear hom
        obtain ⟨T, hT⟩ : ∃ x, sortV m = x := ⟨_, rfl⟩
        have HT := Hd.mk hT
        clear hT
        refine (rproper_at HOM.out Fm_28.out).mono ?_
        rintro e w29 ⟨rfl, hB⟩
        have HB30 := Hd.mk (ch4 HB28.out hB)
        have Fl_30 := Hd.mk (Fl_28.out.below hB)
        have Fm_30 := Hd.mk (Fm_28.out.below hB)
        have Fn_30 := Hd.mk (Fn_28.out.below hB)
        have Fs_30 := Hd.mk (Fs_28.out.below hB)
        clear HB28 Fl_28 Fm_28 Fn_28 Fs_28
        clear hB
        go_wp2_with fail
        refine (rsorted_at HT.out Fm_30.out).mono ?_
        rintro e w31 ⟨v98, rfl, hO, hB⟩
        have FNt31 := Hd.mk (hO.src)
        have HB32 := Hd.mk (ch4 HB30.out hB)
        have Fl_32 := Hd.mk (Fl_30.out.below hB)
        have Fm_32 := Hd.mk (Fm_30.out.below hB)
        have Fn_32 := Hd.mk (Fn_30.out.below hB)
        have Fs_32 := Hd.mk (Fs_30.out.below hB)
        clear HB30 Fl_30 Fm_30 Fn_30 Fs_30
        clear hB hO
        obtain ⟨a98, c98, rfl⟩ := FNt31.out.shape
        go_wp2_with fail
        by_cases hST : S = T
        · have HPM : Hd (l.Perm m) := ⟨(perm_sort HK.out HM.out).2 (by rw [HS.out, HT.out]; exact hST)⟩
          have hos : okS l m = true := by rw [okS, HOK.out, HOM.out, decide_eq_true HPM.out]; rfl
          obtain rfl : se = 0 := by rw [← HSE.out, swE, hos]; rfl
          have HSV : Hd (swapsV l m = sn) := ⟨by rw [← HSN.out, swN, hos]; rfl⟩
          have HLL2 : Hd (l.length ≤ 1000) := ⟨by have h2 := HK.out.len; omega⟩
          have HSTT := Hd.mk hST
          clear hST hos
          refine (equal_at (b := true) (decide_eq_true HSTT.out) Fs_32.out FNt31.out).mono ?_
          rintro e w33 ⟨rfl, hB⟩
          have HB34 := Hd.mk (ch4 HB32.out hB)
          have Fl_34 := Hd.mk (Fl_32.out.below hB)
          have Fm_34 := Hd.mk (Fm_32.out.below hB)
          have Fn_34 := Hd.mk (Fn_32.out.below hB)
          have Fs_34 := Hd.mk (Fs_32.out.below hB)
          have Ft_34 := Hd.mk (FNt31.out.below hB)
          clear HB32 Fl_32 Fm_32 Fn_32 Fs_32 FNt31
          clear hB
          go_wp2_with fail
          refine (rswaps_at HPM.out HM.out.nd HLL2.out HSV.out Fl_34.out Fm_34.out).mono ?_
          rintro e w35 ⟨rfl, hB⟩
          have HB36 := Hd.mk (ch4 HB34.out hB)
          have Fl_36 := Hd.mk (Fl_34.out.below hB)
          have Fm_36 := Hd.mk (Fm_34.out.below hB)
          have Fn_36 := Hd.mk (Fn_34.out.below hB)
          have Fs_36 := Hd.mk (Fs_34.out.below hB)
          have Ft_36 := Hd.mk (Ft_34.out.below hB)
          clear HB34 Fl_34 Fm_34 Fn_34 Fs_34 Ft_34
          clear hB
          go_wp2_with fail
          clear Ft_36 Fs_36
          rcases hrt : rightB l with _ | _
          · obtain rfl : nte = 2 := by rw [← HNTE.out, ntE, hrt]; rfl
            obtain rfl : no = [] := by rw [← HNO.out, ntO, hrt]; rfl
            have HRT := Hd.mk hrt
            clear hrt
            go_wp2_with fail
            refine (rright_at HRT.out Fl_36.out).mono ?_
            rintro e w37 ⟨rfl, hB⟩
            have HB38 := Hd.mk (ch4 HB36.out hB)
            have Fl_38 := Hd.mk (Fl_36.out.below hB)
            have Fm_38 := Hd.mk (Fm_36.out.below hB)
            have Fn_38 := Hd.mk (Fn_36.out.below hB)
            clear HB36 Fl_36 Fm_36 Fn_36
            clear hB
            go_wp2_with fail
            go_ret
            exact ⟨rfl, HB38.out⟩
          · have HRT := Hd.mk hrt
            by_cases hneg : r < 0
            · have hdd : decide (0 ≤ r) = false := decide_eq_false (by omega)
              obtain rfl : nte = 2 := by rw [← HNTE.out, ntE, hrt, hdd]; rfl
              obtain rfl : no = [] := by rw [← HNO.out, ntO, hrt, hdd]; rfl
              clear hrt hdd
              go_wp2_with fail
              refine (rright_at HRT.out Fl_36.out).mono ?_
              rintro e w37 ⟨rfl, hB⟩
              have HB38 := Hd.mk (ch4 HB36.out hB)
              have Fl_38 := Hd.mk (Fl_36.out.below hB)
              have Fm_38 := Hd.mk (Fm_36.out.below hB)
              have Fn_38 := Hd.mk (Fn_36.out.below hB)
              clear HB36 Fl_36 Fm_36 Fn_36
              clear hB
              go_wp2_with fail
              go_ret
              exact ⟨rfl, HB38.out⟩
            · have hdd : decide (0 ≤ r) = true := decide_eq_true (by omega)
              obtain ⟨q, hq⟩ : ∃ q : Nat, r = q := ⟨r.toNat, by omega⟩
              have hnn : (0 : Int) ≤ r := by omega
              have HQ := Hd.mk hq
              have HLL : Hd (l.length ≤ 20) := ⟨by have h2 := HK.out.len; omega⟩
              by_cases hqf : r.toNat < fac l.length
              · obtain rfl : nte = 0 := by rw [← HNTE.out, ntE, hrt, hdd]; simp only [Bool.and_self, if_true]; rw [if_pos (show r < ((fac l.length : Nat) : Int) by omega)]
                have HNV : Hd (nthV l.length l r.toNat = no) := ⟨by rw [← HNO.out, ntO, hrt, hdd]; simp only [Bool.and_self, if_true]; rw [if_pos (show r < ((fac l.length : Nat) : Int) by omega)]⟩
                have HQF := Hd.mk hqf
                clear hqf hrt hdd hq
                go_wp2_with fail
                refine (rright_at HRT.out Fl_36.out).mono ?_
                rintro e w37 ⟨rfl, hB⟩
                have HB38 := Hd.mk (ch4 HB36.out hB)
                have Fl_38 := Hd.mk (Fl_36.out.below hB)
                have Fm_38 := Hd.mk (Fm_36.out.below hB)
                have Fn_38 := Hd.mk (Fn_36.out.below hB)
                clear HB36 Fl_36 Fm_36 Fn_36
                clear hB
                go_wp2_with fail
                refine (rnth_at (r := r.toNat) r (by omega) HLL.out HQF.out HNV.out Fl_38.out).mono ?_
                rintro e w39 ⟨v19, rfl, hO, hB⟩
                have FNk39 := Hd.mk (hO.src)
                have HB40 := Hd.mk (ch4 HB38.out hB)
                have Fl_40 := Hd.mk (Fl_38.out.below hB)
                have Fm_40 := Hd.mk (Fm_38.out.below hB)
                have Fn_40 := Hd.mk (Fn_38.out.below hB)
                clear HB38 Fl_38 Fm_38 Fn_38
                clear hB hO
                obtain ⟨a19, c19, rfl⟩ := FNk39.out.shape
                go_wp2_with fail
                refine (equal_at (b := true) (by simp) Fn_40.out FNk39.out).mono ?_
                rintro e w41 ⟨rfl, hB⟩
                have HB42 := Hd.mk (ch4 HB40.out hB)
                have Fl_42 := Hd.mk (Fl_40.out.below hB)
                have Fm_42 := Hd.mk (Fm_40.out.below hB)
                have Fn_42 := Hd.mk (Fn_40.out.below hB)
                have Fk_42 := Hd.mk (FNk39.out.below hB)
                clear HB40 Fl_40 Fm_40 Fn_40 FNk39
                clear hB
                go_wp2_with fail
                go_ret
                exact ⟨rfl, HB42.out⟩
              · obtain rfl : nte = 6 := by rw [← HNTE.out, ntE, hrt, hdd]; simp only [Bool.and_self, if_true]; rw [if_neg (show ¬ r < ((fac l.length : Nat) : Int) by omega)]
                have HNV : Hd ([] = no) := ⟨by rw [← HNO.out, ntO, hrt, hdd]; simp only [Bool.and_self, if_true]; rw [if_neg (show ¬ r < ((fac l.length : Nat) : Int) by omega)]⟩
                have HQF := Hd.mk hqf
                clear hqf hrt hdd hq
                obtain rfl := HNV.out
                go_wp2_with fail
                refine (rright_at HRT.out Fl_36.out).mono ?_
                rintro e w37 ⟨rfl, hB⟩
                have HB38 := Hd.mk (ch4 HB36.out hB)
                have Fl_38 := Hd.mk (Fl_36.out.below hB)
                have Fm_38 := Hd.mk (Fm_36.out.below hB)
                have Fn_38 := Hd.mk (Fn_36.out.below hB)
                clear HB36 Fl_36 Fm_36 Fn_36
                clear hB
                go_wp2_with fail
                refine (rnth_ov (r := r.toNat) r (by omega) HLL.out (Nat.le_of_not_lt HQF.out) Fl_38.out).mono ?_
                rintro e w39 ⟨v19, rfl, hO, hB⟩
                have FNk39 := Hd.mk (hO.src)
                have HB40 := Hd.mk (ch4 HB38.out hB)
                have Fl_40 := Hd.mk (Fl_38.out.below hB)
                have Fm_40 := Hd.mk (Fm_38.out.below hB)
                have Fn_40 := Hd.mk (Fn_38.out.below hB)
                clear HB38 Fl_38 Fm_38 Fn_38
                clear hB hO
                obtain ⟨a19, c19, rfl⟩ := FNk39.out.shape
                go_wp2_with fail
                refine (equal_at (b := true) (by simp) Fn_40.out FNk39.out).mono ?_
                rintro e w41 ⟨rfl, hB⟩
                have HB42 := Hd.mk (ch4 HB40.out hB)
                have Fl_42 := Hd.mk (Fl_40.out.below hB)
                have Fm_42 := Hd.mk (Fm_40.out.below hB)
                have Fn_42 := Hd.mk (Fn_40.out.below hB)
                have Fk_42 := Hd.mk (FNk39.out.below hB)
                clear HB40 Fl_40 Fm_40 Fn_40 FNk39
                clear hB
                go_wp2_with fail
                go_ret
                exact ⟨rfl, HB42.out⟩
        · have hos : okS l m = false := by
            have hq : ¬ l.Perm m := fun h => hST (by rw [← HS.out, ← HT.out]; exact (perm_sort HK.out HM.out).1 h)
            rw [okS, HOK.out, HOM.out, decide_eq_false hq]; rfl
          obtain rfl : se = 2 := by rw [← HSE.out, swE, hos]; rfl
          obtain rfl : sn = 0 := by rw [← HSN.out, swN, hos]; rfl
          have HSTT := Hd.mk hST
          clear hST hos
          refine (equal_at (b := false) (decide_eq_false HSTT.out) Fs_32.out FNt31.out).mono ?_
          rintro e w33 ⟨rfl, hB⟩
          have HB34 := Hd.mk (ch4 HB32.out hB)
          have Fl_34 := Hd.mk (Fl_32.out.below hB)
          have Fm_34 := Hd.mk (Fm_32.out.below hB)
          have Fn_34 := Hd.mk (Fn_32.out.below hB)
          have Fs_34 := Hd.mk (Fs_32.out.below hB)
          have Ft_34 := Hd.mk (FNt31.out.below hB)
          clear HB32 Fl_32 Fm_32 Fn_32 Fs_32 FNt31
          clear hB
          go_wp2_with fail
          clear Ft_34 Fs_34
          rcases hrt : rightB l with _ | _
          · obtain rfl : nte = 2 := by rw [← HNTE.out, ntE, hrt]; rfl
            obtain rfl : no = [] := by rw [← HNO.out, ntO, hrt]; rfl
            have HRT := Hd.mk hrt
            clear hrt
            go_wp2_with fail
            refine (rright_at HRT.out Fl_34.out).mono ?_
            rintro e w35 ⟨rfl, hB⟩
            have HB36 := Hd.mk (ch4 HB34.out hB)
            have Fl_36 := Hd.mk (Fl_34.out.below hB)
            have Fm_36 := Hd.mk (Fm_34.out.below hB)
            have Fn_36 := Hd.mk (Fn_34.out.below hB)
            clear HB34 Fl_34 Fm_34 Fn_34
            clear hB
            go_wp2_with fail
            go_ret
            exact ⟨rfl, HB36.out⟩
          · have HRT := Hd.mk hrt
            by_cases hneg : r < 0
            · have hdd : decide (0 ≤ r) = false := decide_eq_false (by omega)
              obtain rfl : nte = 2 := by rw [← HNTE.out, ntE, hrt, hdd]; rfl
              obtain rfl : no = [] := by rw [← HNO.out, ntO, hrt, hdd]; rfl
              clear hrt hdd
              go_wp2_with fail
              refine (rright_at HRT.out Fl_34.out).mono ?_
              rintro e w35 ⟨rfl, hB⟩
              have HB36 := Hd.mk (ch4 HB34.out hB)
              have Fl_36 := Hd.mk (Fl_34.out.below hB)
              have Fm_36 := Hd.mk (Fm_34.out.below hB)
              have Fn_36 := Hd.mk (Fn_34.out.below hB)
              clear HB34 Fl_34 Fm_34 Fn_34
              clear hB
              go_wp2_with fail
              go_ret
              exact ⟨rfl, HB36.out⟩
            · have hdd : decide (0 ≤ r) = true := decide_eq_true (by omega)
              obtain ⟨q, hq⟩ : ∃ q : Nat, r = q := ⟨r.toNat, by omega⟩
              have hnn : (0 : Int) ≤ r := by omega
              have HQ := Hd.mk hq
              have HLL : Hd (l.length ≤ 20) := ⟨by have h2 := HK.out.len; omega⟩
              by_cases hqf : r.toNat < fac l.length
              · obtain rfl : nte = 0 := by rw [← HNTE.out, ntE, hrt, hdd]; simp only [Bool.and_self, if_true]; rw [if_pos (show r < ((fac l.length : Nat) : Int) by omega)]
                have HNV : Hd (nthV l.length l r.toNat = no) := ⟨by rw [← HNO.out, ntO, hrt, hdd]; simp only [Bool.and_self, if_true]; rw [if_pos (show r < ((fac l.length : Nat) : Int) by omega)]⟩
                have HQF := Hd.mk hqf
                clear hqf hrt hdd hq
                go_wp2_with fail
                refine (rright_at HRT.out Fl_34.out).mono ?_
                rintro e w35 ⟨rfl, hB⟩
                have HB36 := Hd.mk (ch4 HB34.out hB)
                have Fl_36 := Hd.mk (Fl_34.out.below hB)
                have Fm_36 := Hd.mk (Fm_34.out.below hB)
                have Fn_36 := Hd.mk (Fn_34.out.below hB)
                clear HB34 Fl_34 Fm_34 Fn_34
                clear hB
                go_wp2_with fail
                refine (rnth_at (r := r.toNat) r (by omega) HLL.out HQF.out HNV.out Fl_36.out).mono ?_
                rintro e w37 ⟨v19, rfl, hO, hB⟩
                have FNk37 := Hd.mk (hO.src)
                have HB38 := Hd.mk (ch4 HB36.out hB)
                have Fl_38 := Hd.mk (Fl_36.out.below hB)
                have Fm_38 := Hd.mk (Fm_36.out.below hB)
                have Fn_38 := Hd.mk (Fn_36.out.below hB)
                clear HB36 Fl_36 Fm_36 Fn_36
                clear hB hO
                obtain ⟨a19, c19, rfl⟩ := FNk37.out.shape
                go_wp2_with fail
                refine (equal_at (b := true) (by simp) Fn_38.out FNk37.out).mono ?_
                rintro e w39 ⟨rfl, hB⟩
                have HB40 := Hd.mk (ch4 HB38.out hB)
                have Fl_40 := Hd.mk (Fl_38.out.below hB)
                have Fm_40 := Hd.mk (Fm_38.out.below hB)
                have Fn_40 := Hd.mk (Fn_38.out.below hB)
                have Fk_40 := Hd.mk (FNk37.out.below hB)
                clear HB38 Fl_38 Fm_38 Fn_38 FNk37
                clear hB
                go_wp2_with fail
                go_ret
                exact ⟨rfl, HB40.out⟩
              · obtain rfl : nte = 6 := by rw [← HNTE.out, ntE, hrt, hdd]; simp only [Bool.and_self, if_true]; rw [if_neg (show ¬ r < ((fac l.length : Nat) : Int) by omega)]
                have HNV : Hd ([] = no) := ⟨by rw [← HNO.out, ntO, hrt, hdd]; simp only [Bool.and_self, if_true]; rw [if_neg (show ¬ r < ((fac l.length : Nat) : Int) by omega)]⟩
                have HQF := Hd.mk hqf
                clear hqf hrt hdd hq
                obtain rfl := HNV.out
                go_wp2_with fail
                refine (rright_at HRT.out Fl_34.out).mono ?_
                rintro e w35 ⟨rfl, hB⟩
                have HB36 := Hd.mk (ch4 HB34.out hB)
                have Fl_36 := Hd.mk (Fl_34.out.below hB)
                have Fm_36 := Hd.mk (Fm_34.out.below hB)
                have Fn_36 := Hd.mk (Fn_34.out.below hB)
                clear HB34 Fl_34 Fm_34 Fn_34
                clear hB
                go_wp2_with fail
                refine (rnth_ov (r := r.toNat) r (by omega) HLL.out (Nat.le_of_not_lt HQF.out) Fl_36.out).mono ?_
                rintro e w37 ⟨v19, rfl, hO, hB⟩
                have FNk37 := Hd.mk (hO.src)
                have HB38 := Hd.mk (ch4 HB36.out hB)
                have Fl_38 := Hd.mk (Fl_36.out.below hB)
                have Fm_38 := Hd.mk (Fm_36.out.below hB)
                have Fn_38 := Hd.mk (Fn_36.out.below hB)
                clear HB36 Fl_36 Fm_36 Fn_36
                clear hB hO
                obtain ⟨a19, c19, rfl⟩ := FNk37.out.shape
                go_wp2_with fail
                refine (equal_at (b := true) (by simp) Fn_38.out FNk37.out).mono ?_
                rintro e w39 ⟨rfl, hB⟩
                have HB40 := Hd.mk (ch4 HB38.out hB)
                have Fl_40 := Hd.mk (Fl_38.out.below hB)
                have Fm_40 := Hd.mk (Fm_38.out.below hB)
                have Fn_40 := Hd.mk (Fn_38.out.below hB)
                have Fk_40 := Hd.mk (FNk37.out.below hB)
                clear HB38 Fl_38 Fm_38 Fn_38 FNk37
                clear hB
                go_wp2_with fail
                go_ret
                exact ⟨rfl, HB40.out⟩
end Go.Proofs.Ytmahjgffadbdcaa
