/- Walk of picks.Rank. -/
import Derived.Test.YtmahjgffadbdcaaA6
namespace Go.Proofs.Ytmahjgffadbdcaa
open Go.RowKit
set_option linter.unusedVariables false

def eV (l : List Int) : Int := if okO l then 0 else 2
def rkV (l : List Int) : Int := if okO l then (rankV l : Int) else 0
theorem drop_left {l : List Int} (h : OkO l) (k : Nat) : lf (l.drop k) = lf (sortV (l.drop k)) :=
  lf_congr fun p => by rw [sort_mem]; exact ⟨fun hp => ⟨(h.drop k).rng p hp, hp⟩, fun hp => hp.2⟩
theorem sort_rng (l : List Int) : ∀ p ∈ sortV l, 1 ≤ p ∧ p ≤ 16 := fun p hp => ((sort_mem p).1 hp).1
theorem drop_del {l : List Int} (h : OkO l) (k : Nat) (hk : k < l.length) (q : Nat) (hq : l[k] = (q : Int)) : (lf (l.drop k)).setIfInBounds q (.bool false) = lf (l.drop (k + 1)) :=
  lf_set q (by have := h.rng _ (List.getElem_mem hk); omega) false (has_del fun p => by rw [← hq]; exact nodup_drop_mem h.nd k hk p)

set_option maxRecDepth 100000 in
set_option maxHeartbeats 1000000 in
theorem rank_any (v : Value) (l : List Int) (w : World) (h : SrcI w v l) : Calls Try.prog 27 #[v] w fun e w' => e = .returned (.tuple #[.int .i64 (rkV l), .int .i64 (eV l)]) ∧ Below w.heap.size w w' := by
  have hsm := h.small
  have H := Hd.mk h
  obtain ⟨a, c, rfl⟩ := h.shape
  clear h
  go_enter Try.func27, Try.ntmps27
  go_wp2_with fail
  refine (of_any _ l _ H.out).mono ?_
  rintro e w1 ⟨rfl, hB⟩
  have hB1 := hB.alloc hB.size (.cells (lf (ofS l)) 51)
  cases ho : okO l
  · have HO := Hd.mk ho
    have HB1 := Hd.mk hB1
    clear ho hB1 hB
    go_wp2_with (refine wpList_store_row rfl 51 _ _ rfl w1.heap.size (lf (ofS l)) rfl rfl 51 (lf []) (World.alloc_heap_new _ _) rfl rfl (lf_one _) ?_)
    rw [World.setRow_alloc_new]
    refine bodyPost_ret (results_tmp2 Try.results27 _ _ _) rfl ?_
    exact ⟨by rw [eV, rkV, HO.out]; rfl, HB1.out⟩
  · have HE : Hd (eV l = 0 ∧ rkV l = (rankV l : Int)) := ⟨by rw [eV, rkV, ho]; exact ⟨rfl, rfl⟩⟩
    have hok : OkO l := of_decide_eq_true ho
    have hX : (w1.alloc (.cells (lf (ofS l)) 51)).heap[w1.heap.size]? = some (.cells (lf (l.drop 0)) 51 (0, 0)) := by rw [World.alloc_heap_new, ofS, ho]; rfl
    have hlen := hok.len
    have hGs := hB.size
    have HOK := Hd.mk hok
    have HB1 := Hd.mk hB1
    have HX := Hd.mk hX
    clear ho hB1 hB hok hX
    go_wp2_with (refine wpList_store_row rfl 51 _ _ rfl w1.heap.size (lf (ofS l)) rfl rfl 51 (lf []) (World.alloc_heap_new _ _) rfl rfl (lf_one _) ?_)
    rw [World.setRow_alloc_new]
    generalize w1.alloc (.cells (lf (ofS l)) 51) = W1 at HB1 HX ⊢
    obtain ⟨G, hG⟩ : ∃ G, w1.heap.size = G := ⟨_, rfl⟩
    rw [hG] at HX hGs ⊢
    clear hG
    go_wp2_with fail
    go_loopw [6, 18] (fun r i W => ∃ k rk : Nat, k ≤ l.length ∧ r = .int .i64 rk ∧ i = .int .i64 k ∧ Hd (rk * fac (l.length - k) + rankV (l.drop k) = rankV l) ∧ Hd (W.heap[G]? = some (.cells (lf (l.drop k)) 51 (0, 0))) ∧ Below w.heap.size w W) (fun _ i _ => l.length - (intOf i).toNat)
    case atStart => exact ⟨0, 0, by omega, rfl, rfl, ⟨by rw [Nat.zero_mul, Nat.zero_add, List.drop_zero]⟩, HX, HB1.out⟩
    case round =>
      obtain ⟨k, rk, hk, rfl, rfl, HR, HG, hB⟩ := hrel
      by_cases hlt : k < l.length
      · obtain ⟨b, off, rfl, hb, hx⟩ := (H.out.below hB).at k hlt
        have hrg := HOK.out.rng _ (List.getElem_mem hlt)
        obtain ⟨q, hq⟩ : ∃ q : Nat, l[k] = q := ⟨l[k].toNat, by omega⟩
        have HST := Hd.mk (rank_step hlt HR.out)
        have HDEL := Hd.mk (drop_del HOK.out k hlt q hq)
        have HCN : Hd (cntL (sortV (l.drop k)) q = cntL (l.drop k) q) := ⟨cntL_perm (sort_perm (HOK.out.drop k)) _⟩
        have hbd := rank_bound (k := k + 1) HST.out
        have hf16 := fac_mono hlen
        rw [fac16] at hf16
        have hcl := cntL_le (l.drop k) q
        rw [List.length_drop] at hcl
        rw [hq] at hx HST hbd hrg
        obtain ⟨cn, hcn⟩ : ∃ cn, cntL (l.drop k) q = cn := ⟨_, rfl⟩
        rw [hcn] at HST hbd HCN hcl
        obtain ⟨d, hd⟩ : ∃ d, l.length - k = d := ⟨_, rfl⟩
        rw [hd] at HST hbd hcl
        have hdi : (l.length : Int) - (k : Int) = (d : Int) := by omega
        obtain ⟨pr, hpr⟩ : ∃ pr, rk * d = pr := ⟨_, rfl⟩
        rw [hpr] at HST hbd
        have hpi : (rk : Int) * (d : Int) = (pr : Int) := by rw [← hpr]; simp
        have hrkb : rk < 20922789888001 := by have := rank_bound HR.out; omega
        have hq17 : q < 17 := by omega
        have q0 : (0 : Int) ≤ (q : Int) := by omega
        have q3 : (q : Int) < 17 := by omega
        have hw1 : IntKind.i64.wrap ((l.length : Int) - (k : Int)) = (d : Int) := by rw [IntWalk.i64_in _ ⟨by omega, by omega⟩]; exact hdi
        have hw2 : IntKind.i64.wrap ((rk : Int) * (d : Int)) = (pr : Int) := by rw [hpi, IntWalk.i64_in _ ⟨by omega, by omega⟩]
        have hw3 : IntKind.i64.wrap ((pr : Int) + (cn : Int)) = ((pr + cn : Nat) : Int) := by rw [IntWalk.i64_in _ ⟨by omega, by omega⟩]; omega
        have hGl := cells_lt HG.out
        have HHD := Hd.mk (And.intro hdi hpi)
        have HGe : Hd (wr.heap[G]? = some (.cells (lf (sortV (l.drop k))) 51 (0, 0))) := ⟨by rw [← drop_left HOK.out k]; exact HG.out⟩
        clear hcn hd hpr hq hbd hf16 hcl hdi hpi
        go_wp2_with fail
        refine (before_any G _ q (sort_asc _) (sort_rng _) _ HGe.out).mono ?_
        rintro e w2 ⟨rfl, hB2⟩
        rw [HCN.out]
        have hG2 := (hB2.block G hGl).trans HG.out
        have hBB := ch4 hB hB2
        have hc := (cells_cell hG2 q)
        have hf := cells_free hG2 q
        have hc2 := (lf_get (l.drop k) q hq17)
        have hc3 := hc.trans hc2
        have HG2 := Hd.mk hG2
        clear hG2 hB2 hB hc hc2
        go_wp2_with fail
        go_roundw
        case rel => exact ⟨k + 1, pr + cn, by omega, by go_num, by go_num, HST, ⟨by rw [← HDEL.out]; exact cells_set HG2.out _⟩, hBB.setCell hGs _⟩
        case measure => simp [intOf]; omega
      · obtain rfl : k = l.length := by omega
        have HRE : Hd ((rk : Int) = rkV l) := ⟨by
          have := HR.out
          rw [HE.out.2, Nat.sub_self, List.drop_length] at *
          show (rk : Int) = _
          rw [← this]
          simp [fac, rankV]⟩
        rw [HRE.out]
        go_wp2_with fail
        refine bodyPost_ret (results_tmp2 Try.results27 _ _ _) rfl ?_
        exact ⟨by rw [HE.out.1]; rfl, hB⟩
end Go.Proofs.Ytmahjgffadbdcaa
