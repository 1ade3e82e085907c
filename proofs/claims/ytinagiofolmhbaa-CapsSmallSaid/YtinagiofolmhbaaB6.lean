/- Revoke, Close. -/
import Derived.Test.YtinagiofolmhbaaB5
namespace Go.Proofs.Ytinagiofolmhbaa
open Go.RowKit
set_option linter.unusedVariables false
set_option linter.unusedSimpArgs false

/-- A map from which some are gone, all else as it was. -/
structure GonQ (w1 W : World) (mb : Nat) (l : List Hn) (gone : List Int) : Prop where
  map : ∃ L, MapL Try.prog 3 kI hV W mb L ∧ ∀ s, lk L s = if s ∈ gone then none else getL l s
  grown : w1.grownBy W (some mb)
theorem GonQ.cells {w1 W : World} {mb : Nat} {l : List Hn} {gone : List Int} (h : GonQ w1 W mb l gone) {L0 : List (Int × Hn)} (h0 : MapL Try.prog 3 kI hV w1 mb L0) {k : Nat} {cs e fr} (hk : w1.heap[k]? = some (.cells cs e fr)) : W.heap[k]? = some (.cells cs e fr) := by
  refine (h.grown.block k (lt_heap hk) (fun e2 => ?_)).trans hk
  cases e2
  obtain ⟨es, clock, hb, _⟩ := h0
  rw [hb] at hk; cases hk
theorem GonQ.below {w1 W W' : World} {mb : Nat} {l : List Hn} {gone : List Int} (h : GonQ w1 W mb l gone) (hB : Below W.heap.size W W') : GonQ w1 W' mb l gone := by
  obtain ⟨L, h1, h2⟩ := h.map
  refine ⟨⟨L, h1.same (hB.block _ h1.lt), h2⟩, ⟨hB.os.trans h.grown.os, hB.tape.trans h.grown.tape, hB.output.trans h.grown.output, Nat.le_trans h.grown.size hB.size, fun k hk hne => (hB.block k (Nat.lt_of_lt_of_le hk h.grown.size)).trans (h.grown.block k hk hne)⟩⟩
/-- A row that is the call's own turns. -/
theorem GonQ.row {w1 W W' : World} {mb : Nat} {l : List Hn} {gone : List Int} (h : GonQ w1 W mb l gone) {r : Option Nat} (hg : W.grownBy W' r) (hr : ∀ k, r = some k → w1.heap.size ≤ k) (hm : mb < w1.heap.size) : GonQ w1 W' mb l gone := by
  obtain ⟨L, h1, h2⟩ := h.map
  have hk : ∀ k, k < w1.heap.size → W'.heap[k]? = W.heap[k]? := fun k hk => hg.block k (Nat.lt_of_lt_of_le hk h.grown.size) (fun e => by have := hr k e.symm; omega)
  exact ⟨⟨L, h1.same (hk mb hm), h2⟩, ⟨hg.os.trans h.grown.os, hg.tape.trans h.grown.tape, hg.output.trans h.grown.output, Nat.le_trans h.grown.size hg.size, fun k hk2 hne => (hk k hk2).trans (h.grown.block k hk2 hne)⟩⟩
theorem GonQ.del {w1 W : World} {mb : Nat} {l : List Hn} {gone : List Int} (h : GonQ w1 W mb l gone) (x : Int) (hx : -9223372036854775808 ≤ x ∧ x ≤ 9223372036854775807) (ty : TypeId) :
    ∃ W', (Builtin.delete_ #[66, 3] ty #[.map (some mb), .int .i64 x]).run Try.prog W = .ok (.tuple #[]) W' ∧ GonQ w1 W' mb l (gone ++ [x]) ∧ W.grownBy W' (some mb) := by
  obtain ⟨L, h1, h2⟩ := h.map
  obtain ⟨lt, hkey⟩ := key3 hx
  obtain ⟨W', hr, hm, hg, hs⟩ := h1.del (ty := ty) keyed3 kI_inj Try.underlying66 x hkey
  refine ⟨W', hr, ⟨⟨_, hm, fun s => ?_⟩, grown_trans h.grown hg⟩, hg⟩
  rw [lk_del, h2]
  by_cases e : s = x
  · subst e; simp
  · simp [e]
set_option maxRecDepth 100000 in
set_option maxHeartbeats 1000000 in
theorem revoke_any {y : Lay} {w : World} {pr : Nat → Prop} {M : Nat} {st : St} (h : TabL y w pr M st) (s : Int) (hs : -9223372036854775808 ≤ s ∧ s ≤ 9223372036854775807) :
    Calls Try.prog 17 #[.pointer (some ⟨M, 0, none⟩), .int .i64 s] w fun e w' => ∃ a c pr', e = .returned (.tuple #[.slice a (belowS st s).length c, .int .i64 (getE st s)]) ∧ TabAt w' pr' M (revokeS st s) ∧ Held pr' w' (fun W => AppI W w.heap.size (.slice a (belowS st s).length c) (belowS st s)) ∧ Step pr w pr' w' := by
  have HC := Hd.mk (below_any h s hs)
  have HT := Hd.mk h
  obtain ⟨ge, hge⟩ : ∃ e, getE st s = e := ⟨_, rfl⟩
  rw [hge] at HC ⊢
  have hrb : ∀ z ∈ belowS st s, -9223372036854775808 ≤ z ∧ z ≤ 9223372036854775807 := by
    intro z hz
    unfold belowS at hz
    split at hz
    · obtain ⟨x, hx, rfl, _⟩ := (below_mem h.ok.tr).1 hz
      have h1 := h.ok.lo _ (live_mem.1 hx)
      have h2 := h.ok.n2
      simp only at h1
      omega
    · cases hz
  obtain ⟨r, hr⟩ : ∃ r, belowS st s = r := ⟨_, rfl⟩
  have hrev : revokeS st s = takeS st r := by unfold revokeS; rw [hr]
  rw [hr] at HC hrb ⊢
  rw [hrev]
  have HRB := Hd.mk hrb
  clear h hs hge hrb hr hrev
  obtain ⟨n, hn⟩ : ∃ n, r.length = n := ⟨_, rfl⟩
  have HN := Hd.mk hn
  rw [hn]
  clear hn
  go_enter Try.func17, Try.ntmps17
  go_wp2_with fail
  refine HC.out.mono ?_
  rintro e w1 ⟨v, rfl, hO, hB⟩
  have hns := hO.src.small
  obtain ⟨a, c, rfl⟩ := hO.src.shape
  rw [HN.out] at hO hns ⊢
  have HT1 := Hd.mk (HT.out.protect hB)
  obtain ⟨L, hm, hl, _⟩ := HT1.out.mlen
  obtain ⟨mb, hmb⟩ : ∃ b, y.mb = b := ⟨_, rfl⟩
  rw [hmb] at hm
  have HMB := Hd.mk hmb
  have HM := Hd.mk hm
  have H0 : Hd (GonQ w1 w1 mb (liveS st) (r.take 0)) := ⟨⟨⟨L, hm, by simpa using hl⟩, grown_refl _ _⟩⟩
  have HO := Hd.mk hO
  have HB := Hd.mk hB
  clear hO hB hm hl hmb HC
  go_wp2_with fail
  go_loopw [18] (fun i W => ∃ k : Nat, k ≤ n ∧ i = .int .i64 k ∧ Hd (GonQ w1 W mb (liveS st) (r.take k))) (fun i _ => n - (intOf i).toNat)
  case atStart => exact ⟨0, by omega, rfl, H0⟩
  case round =>
    obtain ⟨k, hk, rfl, HR⟩ := hrel
    by_cases hlt : k < n
    · have hkl : k < r.length := by rw [HN.out]; exact hlt
      obtain ⟨b, off, rfl, hb, hc⟩ := SrcI.at (OwnE.src (show AppI wr w.heap.size (.slice a n c) r from OwnE.same HO.out fun g cur fr hg _ => (HR.out.cells HM.out hg).trans hg.symm)) k hkl
      have t2 : wr.cell? ⟨M, 2, none⟩ = some (.map (some mb)) := by rw [cells_cell (HR.out.cells HM.out HT1.out.bM), ← HMB.out]; exact HT1.out.c2
      obtain ⟨x, hx⟩ : ∃ x, r[k] = x := ⟨_, rfl⟩
      rw [hx] at hc
      obtain ⟨W', hdel, hq, _⟩ := HR.out.del x (by rw [← hx]; exact HRB.out _ (List.getElem_mem _)) 0
      rw [show r.take k ++ [x] = r.take (k + 1) from by rw [List.take_succ_eq_append_getElem hkl, hx]] at hq
      have HQ := Hd.mk hq
      have k0 : (0 : Int) ≤ (k : Int) := by omega
      have k1 : (k : Int) < (n : Int) := by omega
      have k2 : (k : Int) + 1 ≤ 9223372036854775807 := by omega
      have HLT := Hd.mk hlt
      clear hlt hkl hx hq hb hk
      go_wp2_with fail
      go_roundw
      case rel => exact ⟨k + 1, by have := HLT.out; omega, by go_num, HQ⟩
      case measure => have := HLT.out; simp [intOf]; omega
    · obtain rfl : k = n := by omega
      clear hlt hk
      go_wp2_with fail
      refine bodyPost_ret (results_tmp2 Try.results17 _ _ _) rfl ?_
      have hgon := HR.out
      rw [List.take_of_length_le (by rw [HN.out]; omega)] at hgon
      obtain ⟨L2, hm2, hl2⟩ := hgon.map
      have hT2 := HT1.out.taken r (by rw [HMB.out]; exact hm2) hl2 (by rw [HMB.out]; exact hgon.grown)
      refine ⟨a, c, Go.Proofs.Ytinagiofolmhbaa.grow pr w w1, rfl, ⟨y, hT2⟩, fun W hW => ?_, (Step.grow HT.out.prs HB.out).trans (.of (Kept.grown hgon.grown (fun k hk => HT1.out.prs k hk) (fun k hk hp => by cases hk; exact HT1.out.pB (by rw [HMB.out]; exact hp))))⟩
      refine OwnE.same (show AppI w1 w.heap.size (.slice a k c) r from HO.out) fun g cur fr hg hv => (hW.block g (.inr ?_)).trans ((hgon.cells HM.out hg).trans hg.symm)
      have := World.ownsRow.lt HO.out g hv
      exact this
end Go.Proofs.Ytinagiofolmhbaa
