/- The plain law of CapsSmall's tables: 256 handles, 256 places. -/
import Derived.Test.YtinagiofolmhbaaT2
namespace Go.Proofs.Ytinagiofolmhbaa
open Go.RowKit
set_option linter.unusedVariables false
set_option linter.unusedSimpArgs false

def fH (i : Nat) : Hn := ⟨(i : Int) + 1, 0, i, ((i % 17 : Nat) : Int), 15#8⟩
def fS (k : Nat) : St := ⟨(k : Int) + 1, (List.range k).map (fun i => (fH i, false))⟩
theorem fS_live (k : Nat) : liveS (fS k) = (List.range k).map fH := by
  unfold liveS fS
  simp only
  rw [List.filter_eq_self.2 (by intro x hx; obtain ⟨i, _, rfl⟩ := List.mem_map.1 hx; rfl), List.map_map]
  rfl
theorem fS_len (k : Nat) : (liveS (fS k)).length = k := by rw [fS_live]; simp
theorem fS_places (k : Nat) (who : Int) : (placesS (fS k) who).length ≤ k := by
  unfold placesS ownH fS
  rw [List.length_map]
  exact Nat.le_trans (List.length_filter_le _ _) (by simp)
theorem fS_root {k : Nat} (hk : k < 256) : rootS (fS k) k ((k % 17 : Nat) : Int) 15#8 = fS (k + 1) ∧ rootN (fS k) k ((k % 17 : Nat) : Int) 15#8 = (k : Int) + 1 ∧ rootE (fS k) k ((k % 17 : Nat) : Int) 15#8 = 0 := by
  have hw : rootW (k : Int) ((k % 17 : Nat) : Int) 15#8 = 0 := by
    unfold rootW
    rw [if_neg (by unfold badH; simp only [decide_eq_true_eq]; omega), if_neg (by decide)]
  have ha : addE (fS k) ((k % 17 : Nat) : Int) = 0 := by
    unfold addE
    have h1 := fS_len k
    have h2 := fS_places k ((k % 17 : Nat) : Int)
    have h3 : (fS k).next = (k : Int) + 1 := rfl
    rw [if_neg (by omega), if_neg (by omega), if_neg (by omega)]
  refine ⟨?_, ?_, ?_⟩
  · unfold rootS
    rw [if_pos hw]
    unfold addS
    rw [if_pos ha]
    unfold fS
    rw [List.range_succ, List.map_append]
    rfl
  · unfold rootN addN
    rw [if_pos hw, if_pos ha]; rfl
  · unfold rootE
    rw [if_pos hw]; exact ha
theorem fS_getL {s : Int} (h : s = 0) : getL (liveS (fS 256)) s = none := by
  rw [getL_none, fS_live]
  intro x hx e
  obtain ⟨i, _, rfl⟩ := List.mem_map.1 hx
  unfold fH at e
  simp only at e
  omega
set_option maxRecDepth 100000 in
theorem fS_end : (rootN (fS 256) 0 0 15#8 = 0 ∧ rootE (fS 256) 0 0 15#8 = 5 ∧ rootS (fS 256) 0 0 15#8 = fS 256) ∧ (derN (fS 256) 1 0 1#8 = 0 ∧ derE (fS 256) 1 0 1#8 = 5 ∧ derS (fS 256) 1 0 1#8 = fS 256) := by
  have ha : addE (fS 256) 0 = 5 := by unfold addE; rw [if_pos (by rw [fS_len]; omega)]
  have hw : rootW 0 0 15#8 = 0 := by decide
  have hg : getL (liveS (fS 256)) 1 = some (fH 0) := by
    have : getL (liveS (fS 256)) 1 = getL ((List.range 256).map fH) 1 := by rw [fS_live]
    rw [this]; rfl
  have hd : derW (fS 256) 1 0 1#8 = 0 := by unfold derW getE getV; rw [hg]; decide
  have hn : addN (fS 256) 0 = 0 := by unfold addN; rw [ha]; rfl
  have hs : ∀ h : Hn, h.hol = 0 → addS (fS 256) h = fS 256 := fun h hh => by unfold addS; rw [hh, ha]; rfl
  refine ⟨⟨?_, ?_, ?_⟩, ?_, ?_, ?_⟩
  · unfold rootN; rw [if_pos hw]; exact hn
  · unfold rootE; rw [if_pos hw]; exact ha
  · unfold rootS; rw [if_pos hw]; exact hs _ rfl
  · unfold derN; rw [if_pos hd]; exact hn
  · unfold derE; rw [if_pos hd]; exact ha
  · unfold derS; rw [if_pos hd]; exact hs _ rfl
set_option maxRecDepth 100000 in
theorem fS_below : getE (fS 256) 5 = 0 ∧ belowS (fS 256) 5 = [5] := by
  have hg : getE (fS 256) 5 = 0 := by
    have : getL (liveS (fS 256)) 5 = some (fH 4) := by rw [fS_live]; rfl
    unfold getE; rw [this]; rfl
  refine ⟨hg, ?_⟩
  unfold belowS
  rw [if_pos hg]
  unfold belowL
  have hu : ∀ h ∈ liveS (fS 256), undB (liveS (fS 256)) (liveS (fS 256)).length h 5 = decide (h.ser = 5) := by
    intro h hm
    rw [fS_len]
    rw [fS_live] at hm
    obtain ⟨i, _, rfl⟩ := List.mem_map.1 hm
    show undB (liveS (fS 256)) (255 + 1) (fH i) 5 = _
    unfold undB
    by_cases h5 : (fH i).ser = 5
    · rw [if_pos h5, decide_eq_true h5]
    · rw [if_neg h5, show getL (liveS (fS 256)) (fH i).par = none from fS_getL rfl, decide_eq_false h5]
  rw [List.filter_congr hu, fS_live]
  rfl
set_option maxRecDepth 100000 in
theorem fS_der : derN (takeS (fS 256) [5]) 1 0 1#8 = 257 ∧ derE (takeS (fS 256) [5]) 1 0 1#8 = 0 := by
  have hlv : liveS (takeS (fS 256) [5]) = ((List.range 256).map fH).filter (fun h => ![5].contains h.ser) := by rw [live_take, fS_live]
  have hg : getL (liveS (takeS (fS 256) [5])) 1 = some (fH 0) := by rw [hlv]; rfl
  have hd : derW (takeS (fS 256) [5]) 1 0 1#8 = 0 := by unfold derW getE getV; rw [hg]; decide
  have hl : (liveS (takeS (fS 256) [5])).length = 255 := by rw [hlv]; rfl
  have hp : (placesS (takeS (fS 256) [5]) 0).length < 256 := by
    rw [own_take]
    have : (placesS (fS 256) 0).length = 16 := by rfl
    omega
  have ha : addE (takeS (fS 256) [5]) 0 = 0 := by
    unfold addE
    rw [if_neg (by omega), if_neg (by decide), if_neg (by omega)]
  refine ⟨?_, ?_⟩
  · unfold derN; rw [if_pos hd]; unfold addN; rw [if_pos ha]; rfl
  · unfold derE; rw [if_pos hd]; exact ha
/-! ### Places -/
def gH (i : Nat) : Hn := ⟨100 + (i : Int), 0, 1, 3, 15#8⟩
def gS (k : Nat) : St := ⟨100 + (k : Int), (List.range k).map (fun i => (gH i, true))⟩
theorem gS_live (k : Nat) : liveS (gS k) = [] := by
  unfold liveS gS
  simp only
  rw [List.filter_eq_nil_iff.2 (by intro x hx; obtain ⟨i, _, rfl⟩ := List.mem_map.1 hx; simp)]
  rfl
theorem gS_places (k : Nat) : (placesS (gS k) 3).length = k := by
  unfold placesS ownH gS
  simp only
  rw [List.filter_eq_self.2 (by intro x hx; obtain ⟨i, _, rfl⟩ := List.mem_map.1 hx; rfl)]
  simp
theorem gS_other (k : Nat) : (placesS (gS k) 4).length = 0 := by
  unfold placesS ownH gS
  simp only
  rw [List.filter_eq_nil_iff.2 (by intro x hx; obtain ⟨i, _, rfl⟩ := List.mem_map.1 hx; simp [gH])]
  rfl
def gT (k : Nat) : St := ⟨100 + (k : Int) + 1, (List.range k).map (fun i => (gH i, true)) ++ [(gH k, false)]⟩
theorem gS_root {k : Nat} (hk : k < 256) : rootS (gS k) 1 3 15#8 = gT k ∧ rootN (gS k) 1 3 15#8 = 100 + (k : Int) ∧ rootE (gS k) 1 3 15#8 = 0 := by
  have hw : rootW 1 3 15#8 = 0 := by decide
  have ha : addE (gS k) 3 = 0 := by
    unfold addE
    have h1 := gS_live k
    have h2 := gS_places k
    have h3 : (gS k).next = 100 + (k : Int) := rfl
    rw [h1, if_neg (by simp), if_neg (by omega), if_neg (by omega)]
  refine ⟨?_, ?_, ?_⟩
  · unfold rootS
    rw [if_pos hw]
    unfold addS
    rw [if_pos ha]
    rfl
  · unfold rootN addN
    rw [if_pos hw, if_pos ha]; rfl
  · unfold rootE
    rw [if_pos hw]; exact ha
theorem gT_live (k : Nat) : liveS (gT k) = [gH k] := by
  have h := gS_live k
  unfold liveS gS at h
  unfold liveS gT
  simp only at h ⊢
  rw [List.filter_append, List.map_append, h]
  rfl
theorem gT_close (k : Nat) : closeL (gT k) 1 = [100 + (k : Int)] ∧ closeS (gT k) 1 = gS (k + 1) := by
  have h1 : closeL (gT k) 1 = [100 + (k : Int)] := by
    unfold closeL
    rw [gT_live]; rfl
  refine ⟨h1, ?_⟩
  unfold closeS
  rw [h1]
  unfold takeS gT gS
  rw [St.mk.injEq]
  refine ⟨by simp only; omega, ?_⟩
  simp only [List.map_append, List.map_map, List.range_succ]
  congr 1
  simp [gH]
theorem gS_end : (rootN (gS 256) 1 3 15#8 = 0 ∧ rootE (gS 256) 1 3 15#8 = 4 ∧ rootS (gS 256) 1 3 15#8 = gS 256) ∧ (rootN (gS 256) 1 4 15#8 = 356 ∧ rootE (gS 256) 1 4 15#8 = 0) := by
  have hw : rootW 1 3 15#8 = 0 := by decide
  have hw2 : rootW 1 4 15#8 = 0 := by decide
  have ha : addE (gS 256) 3 = 4 := by
    unfold addE
    rw [gS_live, if_neg (by simp), if_neg (by decide), if_pos (by rw [gS_places]; omega)]
  have ha2 : addE (gS 256) 4 = 0 := by
    unfold addE
    rw [gS_live, if_neg (by simp), if_neg (by decide), if_neg (by rw [gS_other]; omega)]
  refine ⟨⟨?_, ?_, ?_⟩, ?_, ?_⟩
  · unfold rootN addN; rw [if_pos hw, ha]; rfl
  · unfold rootE; rw [if_pos hw]; exact ha
  · unfold rootS addS; rw [if_pos hw, ha]; rfl
  · unfold rootN addN; rw [if_pos hw2, if_pos ha2]; rfl
  · unfold rootE; rw [if_pos hw2]; exact ha2
def gU : St := ⟨357, (List.range 256).map (fun i => (gH i, true)) ++ [(⟨356, 0, 1, 4, 15#8⟩, false)]⟩
theorem gS_four : rootS (gS 256) 1 4 15#8 = gU := by
  have hw2 : rootW 1 4 15#8 = 0 := by decide
  have ha2 : addE (gS 256) 4 = 0 := by
    unfold addE
    rw [gS_live, if_neg (by simp), if_neg (by decide), if_neg (by rw [gS_other]; omega)]
  unfold rootS
  rw [if_pos hw2]
  unfold addS
  rw [if_pos ha2]
  rfl
theorem gU_live : liveS gU = [⟨356, 0, 1, 4, 15#8⟩] := by
  have h := gS_live 256
  unfold liveS gS at h
  unfold liveS gU
  simp only at h ⊢
  rw [List.filter_append, List.map_append, h]
  rfl
theorem gU_places : (placesS gU 3).length = 256 := by
  have h := gS_places 256
  unfold placesS ownH gS at h
  unfold placesS ownH gU
  simp only at h ⊢
  rw [List.filter_append, List.map_append, List.length_append, h]
  rfl
theorem gU_der : derE gU 356 3 15#8 = 4 ∧ derN gU 356 3 15#8 = 0 ∧ derS gU 356 3 15#8 = gU := by
  have hg : getL (liveS gU) 356 = some ⟨356, 0, 1, 4, 15#8⟩ := by rw [gU_live]; rfl
  have hd : derW gU 356 3 15#8 = 0 := by unfold derW getE getV; rw [hg]; decide
  have ha : addE gU 3 = 4 := by
    unfold addE
    rw [gU_live, if_neg (by simp), if_neg (by decide), if_pos (by rw [gU_places]; omega)]
  refine ⟨?_, ?_, ?_⟩
  · unfold derE; rw [if_pos hd]; exact ha
  · unfold derN addN; rw [if_pos hd, ha]; rfl
  · unfold derS addS; rw [if_pos hd, ha]; rfl

end Go.Proofs.Ytinagiofolmhbaa
