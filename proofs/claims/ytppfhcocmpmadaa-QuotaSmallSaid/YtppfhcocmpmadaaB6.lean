/- Walk of the laws' Made. -/
import Derived.Test.YtppfhcocmpmadaaB5
import Derived.Test.YtppfhcocmpmadaaA9
import Derived.RegionTactic
namespace Go.Proofs.Ytppfhcocmpmadaa
open Go.RowKit
set_option linter.unusedVariables false

/-- Four bytes, as cells. -/
def a8 (f : Nat → Int) : Array Value := #[.int .u8 (f 0), .int .u8 (f 1), .int .u8 (f 2), .int .u8 (f 3)]
theorem a8_get (f : Nat → Int) (k : Nat) (h : k < 4) : (a8 f)[k]? = some (.int .u8 (f k)) := by
  have : k = 0 ∨ k = 1 ∨ k = 2 ∨ k = 3 := by omega
  rcases this with rfl | rfl | rfl | rfl <;> rfl
@[reducible] def e16 (n : Int) : Value := .int .u16 n
def mL (a : Nat → Int) : Nat → Int := fun j => a j % 30
def mU (a b : Nat → Int) : Nat → Int := fun j => b j % (a j % 30 + 1)
def mC (xs : List Int) : List (Int × Int) := (xs.take 60).map fun x => (x % 4, x / 4 % 13 - 6)
/-- The first k ones, zeros behind them. -/
def fst' (f : Nat → Int) (k : Nat) : Nat → Int := fun j => if j < k then f j else 0
theorem fst_step (f : Nat → Int) (k : Nat) : upd (fst' f k) k (f k) = fst' f (k + 1) := by
  funext j
  unfold upd fst'
  by_cases e : j = k
  · rw [if_pos e, if_pos (by omega), e]
  · rw [if_neg e]
    by_cases h : j < k
    · rw [if_pos h, if_pos (by omega)]
    · rw [if_neg h, if_neg (by omega)]
theorem bk_set_use (L U : Nat → Int) (k : Nat) (h : k < 4) (v : Int) : (bk L U).setIfInBounds (4 + k) (.int .i64 v) = bk L (upd U k v) := by
  have : k = 0 ∨ k = 1 ∨ k = 2 ∨ k = 3 := by omega
  rcases this with rfl | rfl | rfl | rfl <;> simp [bk, upd]
theorem bk_congr {L U L' U' : Nat → Int} (h : ∀ j, j < 4 → L j = L' j) (h' : ∀ j, j < 4 → U j = U' j) : bk L U = bk L' U' := by
  simp [bk, h 0 (by decide), h 1 (by decide), h 2 (by decide), h 3 (by decide), h' 0 (by decide), h' 1 (by decide), h' 2 (by decide), h' 3 (by decide)]

theorem OwnC.low {w : World} {base base' e : Nat} {v : Value} {cs : List (Int × Int)} (h : OwnC w base e v cs) (hb : base' ≤ base) : OwnC w base' e v cs := by
  refine ⟨h.1, ?_⟩
  rcases h.2 with hn | ⟨g, cap, cur, hv, hg, rest⟩
  · exact .inl hn
  · exact .inr ⟨g, cap, cur, hv, by omega, rest⟩
theorem OwnC.set8 {w : World} {base e g : Nat} {v : Value} {cs : List (Int × Int)} (h : OwnC w base e v cs) (hne : v.ownBlock ≠ some g) (L U : Nat → Int) : OwnC (set8 w g L U) base e v cs := by
  refine h.kept (row := some g) ?_ (.inr hne)
  have h0 : w.grownBy w (some g) := ⟨rfl, rfl, rfl, Nat.le_refl _, fun _ _ _ => rfl⟩
  exact only_setCell (only_setCell (only_setCell (only_setCell (only_setCell (only_setCell (only_setCell (only_setCell h0 (.inl rfl) _) (.inl rfl) _) (.inl rfl) _) (.inl rfl) _) (.inl rfl) _) (.inl rfl) _) (.inl rfl) _) (.inl rfl) _

set_option maxRecDepth 100000 in
set_option maxHeartbeats 1000000 in
theorem made_any (a b : Nat → Int) (ha : ∀ j, j < 4 → 0 ≤ a j ∧ a j ≤ 255) (hb : ∀ j, j < 4 → 0 ≤ b j ∧ b j ≤ 255) (v : Value) (xs : List Int) (w : World) (hs : SrcE e16 w v xs) (hx : ∀ x ∈ xs, 0 ≤ x ∧ x ≤ 65535) :
    Calls Try.prog 12 #[.agg (a8 a), .agg (a8 b), v] w fun e w' => ∃ v', e = .returned (.tuple #[.agg (bk (mL a) (mU a b)), v']) ∧ OwnC w' w.heap.size 32 v' (mC xs) ∧ Below w.heap.size w w' := by
  have hsm := hs.small
  obtain ⟨ad, c, rfl⟩ := hs.shape
  have HS := Hd.mk hs
  have HX := Hd.mk hx
  have HA := Hd.mk ha
  have HBb := Hd.mk hb
  obtain ⟨p0, p1, p2, p3, p4⟩ := push4 w (.cells (a8 a) 22) (.cells (a8 b) 22) (.cells (bk zf zf) 27) (.cells (bk zf zf) 27)
  have HP1 := Hd.mk p1
  have HP2 := Hd.mk p2
  have HP3 := Hd.mk p3
  have HP4 := Hd.mk p4
  have HW0 : Hd (Below w.heap.size w ((((w.alloc (.cells (a8 a) 22)).alloc (.cells (a8 b) 22)).alloc (.cells (bk zf zf) 27)).alloc (.cells (bk zf zf) 27))) :=
    ⟨((((Below.refl _ _).alloc (Nat.le_refl _) _).alloc (by simp) _).alloc (by simp; omega) _).alloc (by simp; omega) _⟩
  have HSZ : Hd (((((w.alloc (.cells (a8 a) 22)).alloc (.cells (a8 b) 22)).alloc (.cells (bk zf zf) 27)).alloc (.cells (bk zf zf) 27)).heap.size = w.heap.size + 4) := ⟨by simp⟩
  clear hs hx ha hb p0 p1 p2 p3 p4
  go_enter Try.func12, Try.ntmps12
  go_wp2_with fail
  obtain ⟨w1, hw1⟩ : ∃ w1, w1 = ((((w.alloc (.cells (a8 a) 22)).alloc (.cells (a8 b) 22)).alloc (.cells (bk zf zf) 27)).alloc (.cells (bk zf zf) 27)) := ⟨_, rfl⟩
  have hw1' : ((((w.alloc (.cells (a8 a) 22)).alloc (.cells (a8 b) 22)).alloc (.cells #[.int .i64 0, .int .i64 0, .int .i64 0, .int .i64 0, .int .i64 0, .int .i64 0, .int .i64 0, .int .i64 0] 27)).alloc (.cells #[.int .i64 0, .int .i64 0, .int .i64 0, .int .i64 0, .int .i64 0, .int .i64 0, .int .i64 0, .int .i64 0] 27)) = w1 := by rw [hw1]; rfl
  rw [hw1']
  rw [← hw1] at HP1 HP2 HP3 HP4 HW0 HSZ
  clear hw1 hw1'
  go_loopw [14] (fun i W => ∃ k : Nat, k ≤ 4 ∧ i = .int .i64 k ∧ W.heap[w.heap.size + 3]? = some (.cells (bk (fst' (mL a) k) (fst' (mU a b) k)) 27 (0, 0)) ∧ w1.grownBy W (some (w.heap.size + 3))) (fun i _ => 4 - (intOf i).toNat)
  case atStart => exact ⟨0, by omega, rfl, by rw [bk_congr (L' := zf) (U' := zf) (fun j _ => by simp [fst', zf]) (fun j _ => by simp [fst', zf])]; exact HP4.out, ⟨rfl, rfl, rfl, Nat.le_refl _, fun _ _ _ => rfl⟩⟩
  case round =>
    obtain ⟨k, hk, rfl, hO, hgr⟩ := hrel
    have HO := Hd.mk hO
    have HGR := Hd.mk hgr
    clear hgr
    by_cases hlt : k < 4
    · have i0 : (0 : Int) ≤ (k : Int) := by omega
      have i1 : (k : Int) < 4 := by omega
      have hz := HSZ.out
      have h1 := (HGR.out.block w.heap.size (by omega) (by simp)).trans HP1.out
      have h2 := (HGR.out.block (w.heap.size + 1) (by omega) (by simp)).trans HP2.out
      have hac := (cells_cell h1 k).trans (a8_get a k hlt)
      have hbc := (cells_cell h2 k).trans (a8_get b k hlt)
      have hlc := (cells_cell hO k).trans (bk_lim _ _ k hlt)
      have huc := (cells_cell hO (4 + k)).trans (bk_use _ _ k hlt)
      have hlf := cells_free hO k
      have huf := cells_free hO (4 + k)
      have hbl : w.heap.size + 3 < wr.heap.size := lt_of_heap hO
      obtain ⟨a0, a1⟩ := HA.out k hlt
      obtain ⟨b0, b1⟩ := HBb.out k hlt
      have e1 : mL a k = a k % 30 := rfl
      have e2 : mU a b k = b k % (a k % 30 + 1) := rfl
      have HST : Hd ((bk (fst' (mL a) k) (fst' (mU a b) k)).setIfInBounds k (.int .i64 (a k % 30)) = bk (fst' (mL a) (k + 1)) (fst' (mU a b) k)) := ⟨by rw [bk_set_lim _ _ k hlt, ← e1, fst_step]⟩
      have HST2 : Hd ((bk (fst' (mL a) (k + 1)) (fst' (mU a b) k)).setIfInBounds (4 + k) (.int .i64 (b k % (a k % 30 + 1))) = bk (fst' (mL a) (k + 1)) (fst' (mU a b) (k + 1))) := ⟨by rw [bk_set_use _ _ k hlt, ← e2, fst_step]⟩
      have e3 : fst' (mL a) (k + 1) k = a k % 30 := by simp [fst', mL]
      obtain ⟨x, hx⟩ : ∃ x, a k = x := ⟨_, rfl⟩
      obtain ⟨y, hy⟩ : ∃ x, b k = x := ⟨_, rfl⟩
      rw [hx] at hac a0 a1 HST HST2 e3
      have HE3 := Hd.mk e3
      rw [hy] at hbc b0 b1 HST2
      clear e1 e2 e3 hx hy h1 h2 hO hz
      obtain ⟨z, hz⟩ : ∃ z, x % 30 = z := ⟨_, rfl⟩
      have z0 : 0 ≤ z := by omega
      have z1 : z ≤ 29 := by omega
      rw [hz] at HST HST2
      obtain ⟨W2, hW2⟩ : ∃ W2, W2 = wr.setCell ⟨w.heap.size + 3, k, none⟩ (.int .i64 z) := ⟨_, rfl⟩
      have hbk2 : W2.heap[w.heap.size + 3]? = some (.cells (bk (fst' (mL a) (k + 1)) (fst' (mU a b) k)) 27 (0, 0)) := by rw [hW2, ← HST.out]; exact cells_set HO.out _
      have hy2 : W2.cell? ⟨w.heap.size + 1, k, none⟩ = some (.int .u8 y) := by
        rw [hW2]; exact (World.cell?_of_block (w := wr) (a := ⟨w.heap.size + 1, k, none⟩) (Below.heap_setCell _ _ _ _ (by simp))).trans hbc
      have hg2 : w1.grownBy W2 (some (w.heap.size + 3)) := by rw [hW2]; exact only_setCell HGR.out (.inl rfl) _
      have hz2 : W2.cell? ⟨w.heap.size + 3, k, none⟩ = some (.int .i64 z) := by
        rw [hW2, cells_cell (cells_set HO.out _)]
        have := HST.out
        rw [this]
        rw [bk_lim _ _ k hlt, HE3.out, hz]
      have hu2 := (cells_cell hbk2 (4 + k)).trans (bk_use _ _ k hlt)
      have hf2 := cells_free hbk2 (4 + k)
      have HBK2 := Hd.mk hbk2
      have HG2 := Hd.mk hg2
      have HW2 := Hd.mk hW2
      have hb2 : w.heap.size + 3 < W2.heap.size := lt_of_heap hbk2
      clear hbk2 hg2 hW2 HST
      go_upto_region 6 with fail
      rw [hz, ← HW2.out]
      clear hac hbc hlc huc hlf huf hz HW2
      have hw : IntKind.i64.wrap (z + 1) = z + 1 := IntWalk.i64_in _ ⟨by omega, by omega⟩
      have hzp : 0 < z + 1 := by omega
      go_region
      go_wp2_with fail
      go_roundw
      case rel => exact ⟨k + 1, by omega, by go_num, by rw [drew_heap, ← HST2.out]; exact cells_set HBK2.out _, only_drew (only_setCell HG2.out (.inl rfl) _)⟩
      case measure => simp [intOf]; omega
    · obtain rfl : k = 4 := by omega
      have hbk : wr.heap[w.heap.size + 3]? = some (.cells (bk (mL a) (mU a b)) 27 (0, 0)) := by
        rw [hO, bk_congr (L' := mL a) (U' := mU a b) (fun j hj => by simp [fst', hj]) (fun j hj => by simp [fst', hj])]
      have hz := HSZ.out
      have hres : wr.heap[w.heap.size + 2]? = some (.cells (bk zf zf) 27 (0, 0)) := (HGR.out.block _ (by omega) (by simp)).trans HP3.out
      have hbel : Below w.heap.size w wr := HW0.out.trans ⟨HGR.out.os, HGR.out.tape, HGR.out.output, HGR.out.size, fun i hi => HGR.out.block i (by omega) (by simp; omega)⟩
      have HBK := Hd.mk hbk
      have HRES := Hd.mk hres
      have HBEL := Hd.mk hbel
      have HSr := Hd.mk (HS.out.below hbel)
      have hwl := hbel.size
      clear hbk hres hbel hO HGR HO HS hz
      obtain ⟨m, hm⟩ : ∃ m, m = min xs.length 60 := ⟨_, rfl⟩
      have hm1 : m ≤ xs.length := by omega
      have hm2 : m ≤ 60 := by omega
      have hmi : (if (xs.length : Int) < 60 then (xs.length : Int) else 60) = (m : Int) := by split <;> omega
      have HMC : Hd (mC xs = (xs.take m).map fun x => (x % 4, x / 4 % 13 - 6)) := ⟨by
        unfold mC; rw [hm]; congr 1
        by_cases h : xs.length ≤ 60
        · rw [Nat.min_eq_left h, List.take_of_length_le (by omega), List.take_of_length_le (Nat.le_refl _)]
        · rw [Nat.min_eq_right (by omega)]⟩
      have hcap : (m : Int) ≤ (c : Int) := by
        rcases HSr.out with ⟨h, h2⟩ | ⟨ad', c', hv, hc', _⟩
        · simp only [Value.slice.injEq] at h; rw [h2] at hm1; simp at hm1; omega
        · simp only [Value.slice.injEq] at hv; omega
      have hcase : ((xs.length : Int) < 60 ∧ xs.length = m) ∨ (¬ (xs.length : Int) < 60 ∧ m = 60) := by omega
      have hwz : w.heap.size + 4 ≤ wr.heap.size := by have := lt_of_heap HBK.out; have := lt_of_heap HRES.out; omega
      clear hm hmi
      rcases hcase with ⟨hc1, hc2⟩ | ⟨hc1, hc2⟩
      · rw [hc2] at hc1 hm1 HSr hsm ⊢
        go_wp2_with fail
        obtain ⟨wq, hwq⟩ : ∃ wq : World, wq = wr := ⟨_, rfl⟩
        rw [← hwq] at HBK HRES HBEL HSr hwl ⊢
        clear hwq
        go_loopw [10, 45] (fun v i W => ∃ k : Nat, k ≤ m ∧ i = .int .i64 k ∧ OwnC W wq.heap.size 32 v ((mC xs).take k) ∧ Below wq.heap.size wq W) (fun _ i _ => m - (intOf i).toNat)
        case atStart => exact ⟨0, by omega, rfl, OwnC.nil _ _ _, Below.refl _ _⟩
        case round =>
          obtain ⟨k, hk, rfl, ho, hB⟩ := hrel
          by_cases hlt : k < m
          · have hkx : k < xs.length := by omega
            obtain ⟨bb, off, rfl, hbb, hcx⟩ := (HSr.out.below hB).at k hkx
            obtain ⟨x0, x1⟩ := HX.out _ (List.getElem_mem hkx)
            have ht : (mC xs).take k ++ [(xs[k] % 4, xs[k] / 4 % 13 - 6)] = (mC xs).take (k + 1) := by
              rw [List.take_succ_eq_append_getElem (i := k) (by rw [HMC.out]; simp; omega)]
              congr 1
              simp only [HMC.out, List.getElem_map, List.getElem_take]
            obtain ⟨v', w', hr, ho', hB'⟩ := app1c (xs[k] % 4) (xs[k] / 4 % 13 - 6) ho hB hB.size (by rw [List.length_take, HMC.out]; simp; omega)
            rw [ht] at ho'
            have HO := Hd.mk ho'
            obtain ⟨x, hx⟩ : ∃ x, xs[k] = x := ⟨_, rfl⟩
            rw [hx] at hcx x0 x1 hr
            have hq : IntKind.u16.wrap (x.tdiv 4) = x / 4 := by
              rw [Int.tdiv_eq_ediv_of_nonneg x0]
              simp [IntKind.wrap, IntKind.bits, IntKind.signed]; omega
            have hq0 : 0 ≤ x / 4 := by omega
            clear hx ht ho ho'
            go_wp2_with (at_builtin; refine wpList_append_run rfl _ _ _ rfl rfl rfl hr ?_; clear hr)
            go_roundw
            case rel => first | exact ⟨k + 1, by omega, by go_num, HO.out, hB'⟩ | exact ⟨_, _, _, _, _, _, _, _, _, _, _, _, _, _, _, _, _, _, _, ⟨k + 1, by omega, by go_num, HO.out, hB'⟩, rfl⟩
            case measure => simp [intOf]; omega
          · have hkm : k = m := by omega
            have hbk := (hB.block _ (lt_of_heap HBK.out)).trans HBK.out
            have hres := (hB.block _ (lt_of_heap HRES.out)).trans HRES.out
            have HRES2 := Hd.mk hres
            have HB2 := Hd.mk (ch4 HBEL.out hB)
            have e : (mC xs).take k = mC xs := List.take_of_length_le (by rw [HMC.out]; simp; try omega)
            rw [e] at ho
            have hol := ho.low hwl
            obtain ⟨⟨c0, c1, c2, c3, c4, c5, c6, c7⟩, -⟩ := bk_cells hbk
            obtain ⟨⟨e0, e1, e2, e3, e4, e5, e6, e7⟩, ⟨f0, f1, f2, f3, f4, f5, f6, f7⟩⟩ := bk_cells hres
            have hfin : OwnC (set8 wr (w.heap.size + 2) (mL a) (mU a b)) w.heap.size 32 u10 (mC xs) := hol.set8 (by
              rcases ho.2 with ⟨h, _⟩ | ⟨g, _, _, h, hg, _⟩
              · rw [h]; simp [Value.ownBlock]
              · rw [h]; simp only [Value.ownBlock, ne_eq, Option.some.injEq]; have := lt_of_heap HRES.out; omega) _ _
            have HFIN := Hd.mk hfin
            clear hbk hres ho hol hB e hfin
            go_wp2_with fail
            refine bodyPost_ret (results_cell_row2 Try.results12 _ _ _ 27 (bk (mL a) (mU a b)) (0, 0) _ rfl (bk_setall (mL a) (mU a b) HRES2.out) Try.underlying27 rfl (by kernel_rfl)) rfl ⟨_, rfl, HFIN.out, set8_below HB2.out (mL a) (mU a b) (g := w.heap.size + 2) (by omega)⟩
      · subst hc2
        have hcap60 : (60 : Int) ≤ (c : Int) := hcap
        have h60 : 60 ≤ xs.length := hm1
        go_wp2_with fail
        all_goals
          first | rw [show (max 60 0 : Int) = ((60 : Nat) : Int) from rfl] | skip
          obtain ⟨wq, hwq⟩ : ∃ wq : World, wq = wr := ⟨_, rfl⟩
          rw [← hwq] at HBK HRES HBEL HSr hwl ⊢
          clear hwq
          go_loopw [10, 45] (fun v i W => ∃ k : Nat, k ≤ 60 ∧ i = .int .i64 k ∧ OwnC W wq.heap.size 32 v ((mC xs).take k) ∧ Below wq.heap.size wq W) (fun _ i _ => 60 - (intOf i).toNat)
          case atStart => exact ⟨0, by omega, rfl, OwnC.nil _ _ _, Below.refl _ _⟩
          case round =>
            obtain ⟨k, hk, rfl, ho, hB⟩ := hrel
            by_cases hlt : k < 60
            · have hkx : k < xs.length := by omega
              obtain ⟨bb, off, rfl, hbb, hcx⟩ := (HSr.out.below hB).at k hkx
              obtain ⟨x0, x1⟩ := HX.out _ (List.getElem_mem hkx)
              have ht : (mC xs).take k ++ [(xs[k] % 4, xs[k] / 4 % 13 - 6)] = (mC xs).take (k + 1) := by
                rw [List.take_succ_eq_append_getElem (i := k) (by rw [HMC.out]; simp; omega)]
                congr 1
                simp only [HMC.out, List.getElem_map, List.getElem_take]
              obtain ⟨v', w', hr, ho', hB'⟩ := app1c (xs[k] % 4) (xs[k] / 4 % 13 - 6) ho hB hB.size (by rw [List.length_take, HMC.out]; simp; omega)
              rw [ht] at ho'
              have HO := Hd.mk ho'
              obtain ⟨x, hx⟩ : ∃ x, xs[k] = x := ⟨_, rfl⟩
              rw [hx] at hcx x0 x1 hr
              have hq : IntKind.u16.wrap (x.tdiv 4) = x / 4 := by
                rw [Int.tdiv_eq_ediv_of_nonneg x0]
                simp [IntKind.wrap, IntKind.bits, IntKind.signed]; omega
              have hq0 : 0 ≤ x / 4 := by omega
              clear hx ht ho ho'
              go_wp2_with (at_builtin; refine wpList_append_run rfl _ _ _ rfl rfl rfl hr ?_; clear hr)
              go_roundw
              case rel => first | exact ⟨k + 1, by omega, by go_num, HO.out, hB'⟩ | exact ⟨_, _, _, _, _, _, _, _, _, _, _, _, _, _, _, _, _, _, _, ⟨k + 1, by omega, by go_num, HO.out, hB'⟩, rfl⟩
              case measure => simp [intOf]; omega
            · have hkm : k = 60 := by omega
              have hbk := (hB.block _ (lt_of_heap HBK.out)).trans HBK.out
              have hres := (hB.block _ (lt_of_heap HRES.out)).trans HRES.out
              have HRES2 := Hd.mk hres
              have HB2 := Hd.mk (ch4 HBEL.out hB)
              have e : (mC xs).take k = mC xs := List.take_of_length_le (by rw [HMC.out]; simp; try omega)
              rw [e] at ho
              have hol := ho.low hwl
              obtain ⟨⟨c0, c1, c2, c3, c4, c5, c6, c7⟩, -⟩ := bk_cells hbk
              obtain ⟨⟨e0, e1, e2, e3, e4, e5, e6, e7⟩, ⟨f0, f1, f2, f3, f4, f5, f6, f7⟩⟩ := bk_cells hres
              have hfin : OwnC (set8 wr (w.heap.size + 2) (mL a) (mU a b)) w.heap.size 32 u10 (mC xs) := hol.set8 (by
                rcases ho.2 with ⟨h, _⟩ | ⟨g, _, _, h, hg, _⟩
                · rw [h]; simp [Value.ownBlock]
                · rw [h]; simp only [Value.ownBlock, ne_eq, Option.some.injEq]; have := lt_of_heap HRES.out; omega) _ _
              have HFIN := Hd.mk hfin
              clear hbk hres ho hol hB e hfin
              go_wp2_with fail
              refine bodyPost_ret (results_cell_row2 Try.results12 _ _ _ 27 (bk (mL a) (mU a b)) (0, 0) _ rfl (bk_setall (mL a) (mU a b) HRES2.out) Try.underlying27 rfl (by kernel_rfl)) rfl ⟨_, rfl, HFIN.out, set8_below HB2.out (mL a) (mU a b) (g := w.heap.size + 2) (by omega)⟩
end Go.Proofs.Ytppfhcocmpmadaa
