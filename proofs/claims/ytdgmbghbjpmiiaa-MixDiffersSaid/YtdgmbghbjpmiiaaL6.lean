/- Walk of the law MixDiffers. -/
import Derived.Test.YtdgmbghbjpmiiaaL5
import Derived.Deep.RegionHeld3
namespace Go.Proofs.Ytdgmbghbjpmiiaa
open Go.RowKit

theorem joinStep_inj1 (x x' y : BitVec 64) (h : joinStep x y = joinStep x' y) : x = x' := by
  unfold joinStep at h
  rw [mix_inj] at h
  have h2 : x * 11400714819323198485#64 = x' * 11400714819323198485#64 := by grind
  have key : 11400714819323198485#64 * 17428512612931826493#64 = 1#64 := by decide
  have e : ∀ z : BitVec 64, z * 11400714819323198485#64 * 17428512612931826493#64 = z := fun z => by rw [BitVec.mul_assoc, key, BitVec.mul_one]
  rw [← e x, h2, e x']
theorem joinStep_inj2 (x y y' : BitVec 64) (h : joinStep x y = joinStep x y') : y = y' := by
  unfold joinStep at h
  rw [mix_inj] at h
  grind

theorem foldl_inj (l : List (BitVec 64)) : ∀ (x x' : BitVec 64), l.foldl joinStep x = l.foldl joinStep x' → x = x' := by
  induction l with
  | nil => intro x x' h; exact h
  | cons y l ih => intro x x' h; exact joinStep_inj1 _ _ _ (ih _ _ h)

theorem join_set (xs : List (BitVec 64)) (k : Nat) (hk : k < xs.length) (z : BitVec 64) (hz : z ≠ xs[k]) : joinV xs ≠ joinV (xs.set k z) := by
  intro h
  have e1 : xs = xs.take k ++ xs[k] :: xs.drop (k + 1) := by simp
  have e2 : xs.set k z = xs.take k ++ z :: xs.drop (k + 1) := List.set_eq_take_append_cons_drop ▸ (by rw [if_pos hk])
  unfold joinV at h
  rw [e2] at h
  conv at h => lhs; rw [e1]
  rw [List.foldl_append, List.foldl_append, List.foldl_cons, List.foldl_cons] at h
  exact hz (joinStep_inj2 _ _ _ (foldl_inj _ _ _ h)).symm

theorem last_back (xs : List (BitVec 64)) (n : Nat) (h : xs.length = n + 1) : lastV (joinV xs) (xs.take n) = xs[n]'(by omega) := by
  rw [joinV_last xs n h]
  unfold lastV joinStep
  rw [unmix_mix]
  grind

set_option maxHeartbeats 1000000 in
theorem mixDiffers_empty (a : Option Addr) (c : Nat) (p q : Int) (w : World) (hs : SrcE u w (.slice a 0 c) []) :
    Calls Try.prog 9 #[.slice a 0 c, .int .u8 p, .int .u64 q] w fun e w' => e = .returned (.bool true) ∧ Below w.heap.size w w' := by
  obtain ⟨v1, w1, hr1, ho1, hB1⟩ := append_new hs (by simp)
  have hs1 := ho1.src
  obtain ⟨a1, c1, hv⟩ := hs1.shape
  rw [List.length_nil] at hv
  subst hv
  have HS1 := Hd.mk hs1
  clear hs1 hs
  cases a with
  | none =>
    go_enter Try.func9, Try.ntmps9
    go_wp2_with (at_builtin; refine wpList_append_run rfl _ _ _ rfl rfl rfl hr1 ?_; clear hr1)
    refine (join_nil a1 c1 _).mono ?_
    rintro e w2 ⟨rfl, rfl⟩
    go_wp2_with fail
    refine (awake_any _).mono ?_
    rintro e w3 ⟨rfl, hb3⟩
    go_wp2_with fail
    go_ret
    exact ⟨rfl, hB1.trans (hb3.mono hB1.size)⟩
  | some ad =>
    go_enter Try.func9, Try.ntmps9
    go_wp2_with (at_builtin; refine wpList_append_run rfl _ _ _ rfl rfl rfl hr1 ?_; clear hr1)
    refine (join_nil a1 c1 _).mono ?_
    rintro e w2 ⟨rfl, rfl⟩
    go_wp2_with fail
    refine (awake_any _).mono ?_
    rintro e w3 ⟨rfl, hb3⟩
    go_wp2_with fail
    go_ret
    exact ⟨rfl, hB1.trans (hb3.mono hB1.size)⟩

theorem max1 (q : Int) (h0 : 1 ≤ q) (h1 : q ≤ 18446744073709551615) (z : BitVec 64) : z + BitVec.ofInt 64 q ≠ z := by
  intro h
  have h2 : BitVec.ofInt 64 q = 0#64 := by grind
  have h3 := congrArg BitVec.toNat h2
  rw [BitVec.toNat_ofInt] at h3
  simp at h3
  omega

theorem cell_set_same {W : World} {b o : Nat} {v : Value} (h : W.cell? ⟨b, o, none⟩ = some v) (x : Value) : (W.setCell ⟨b, o, none⟩ x).cell? ⟨b, o, none⟩ = some x := by
  unfold World.cell? at h
  split at h
  · rename_i c e f hh
    simp at h
    rw [cells_cell (cells_set (o := o) hh x)]
    have : o < c.size := (Array.getElem?_eq_some_iff.1 h).1
    simp [this]
  · cases h
theorem cell_set_other (W : World) (b o j : Nat) (x : Value) (hne : ¬ o = j) : (W.setCell ⟨b, o, none⟩ x).cell? ⟨b, j, none⟩ = W.cell? ⟨b, j, none⟩ := by
  cases hh : W.heap[b]? with
  | none =>
    have : (W.setCell ⟨b, o, none⟩ x).heap[b]? = none := by
      show (W.heap.modify b _)[b]? = none
      rw [Array.getElem?_eq_none_iff] at hh ⊢; simpa using hh
    simp [World.cell?, hh, this]
  | some ob =>
    cases ob with
    | cells c e f =>
      rw [cells_cell (cells_set (o := o) hh x), cells_cell hh]
      simp [Array.getElem?_setIfInBounds_ne hne]
    | _ =>
      have : (W.setCell ⟨b, o, none⟩ x).heap[b]? = W.heap[b]? := by
        show (W.heap.modify b _)[b]? = _
        obtain ⟨hlt, hk⟩ := Array.getElem?_eq_some_iff.1 hh
        rw [Array.getElem?_eq_getElem (by rw [Array.size_modify]; exact hlt), Array.getElem_modify_self, hk, hh]
      simp [World.cell?, hh, this]

/-- What stands through the last statement of MixDiffers: the list, the other one, and what was there. -/
structure RS (w : World) (g1 c1 g2 c2 m m1 : Nat) (ts os : List (BitVec 64)) (tl : BitVec 64) (W : World) : Prop where
  s1 : SrcE u W (.slice (some ⟨g1, 0, none⟩) m1 c1) ts
  s2 : SrcE u W (.slice (some ⟨g2, 0, none⟩) m1 c2) os
  s3 : SrcE u W (.slice (some ⟨g1, 0, none⟩) m c1) (ts.take m)
  cl : W.cell? ⟨g1, m, none⟩ = some (u tl)
  lt : g1 < W.heap.size
  bel : Below w.heap.size w W

theorem RS.step {w : World} {g1 c1 g2 c2 m m1 : Nat} {ts os : List (BitVec 64)} {tl : BitVec 64} {W W' : World} (h : RS w g1 c1 g2 c2 m m1 ts os tl W) (hb : Below W.heap.size W W') : RS w g1 c1 g2 c2 m m1 ts os tl W' :=
  ⟨h.s1.below hb, h.s2.below hb, h.s3.below hb, (hb.cell (p := ⟨g1, m, none⟩) h.lt).trans h.cl, Nat.lt_of_lt_of_le h.lt hb.size, h.bel.trans (hb.mono h.bel.size)⟩
theorem RS.drew {w : World} {g1 c1 g2 c2 m m1 : Nat} {ts os : List (BitVec 64)} {tl : BitVec 64} {W : World} (h : RS w g1 c1 g2 c2 m m1 ts os tl W) : RS w g1 c1 g2 c2 m m1 ts os tl W.drew :=
  h.step ⟨rfl, rfl, rfl, Nat.le_refl _, fun _ _ => rfl⟩
section
variable {w : World} {g1 c1 g2 c2 m m1 : Nat} {ts os : List (BitVec 64)} {tl : BitVec 64} {W W' : World}
theorem RS.both (h : RS w g1 c1 g2 c2 m m1 ts os tl W) : W.cell? ⟨g1, m, none⟩ = some (u tl) ∧ RS w g1 c1 g2 c2 m m1 ts os tl W := ⟨h.cl, h⟩
theorem RS.bothD (h : W.cell? ⟨g1, m, none⟩ = some (u tl) ∧ RS w g1 c1 g2 c2 m m1 ts os tl W) : W.drew.cell? ⟨g1, m, none⟩ = some (u tl) ∧ RS w g1 c1 g2 c2 m m1 ts os tl W.drew := h.2.drew.both
theorem RS.bothS (h : W.cell? ⟨g1, m, none⟩ = some (u tl) ∧ RS w g1 c1 g2 c2 m m1 ts os tl W) (hb : Below W.heap.size W W') : W'.cell? ⟨g1, m, none⟩ = some (u tl) ∧ RS w g1 c1 g2 c2 m m1 ts os tl W' := (h.2.step hb).both
theorem RS.bel_of (h : W.cell? ⟨g1, m, none⟩ = some (u tl) ∧ RS w g1 c1 g2 c2 m m1 ts os tl W) : Below w.heap.size w W := h.2.bel
theorem RS.t1 (h : W.cell? ⟨g1, m, none⟩ = some (u tl) ∧ RS w g1 c1 g2 c2 m m1 ts os tl W) : SrcE u W (.slice (some ⟨g1, 0, none⟩) m1 c1) ts := h.2.s1
theorem RS.t2 (h : W.cell? ⟨g1, m, none⟩ = some (u tl) ∧ RS w g1 c1 g2 c2 m m1 ts os tl W) : SrcE u W (.slice (some ⟨g2, 0, none⟩) m1 c2) os := h.2.s2
theorem RS.t3 (h : W.cell? ⟨g1, m, none⟩ = some (u tl) ∧ RS w g1 c1 g2 c2 m m1 ts os tl W) : SrcE u W (.slice (some ⟨g1, 0, none⟩) m c1) (ts.take m) := h.2.s3
end

set_option maxHeartbeats 2000000 in
theorem mixDiffers_some (b off n c : Nat) (xs : List (BitVec 64)) (p q : Int) (hp0 : 0 ≤ p) (hp1 : p ≤ 255) (hq0 : 0 ≤ q) (hq1 : q ≤ 18446744073709551615) (w : World) (hn : xs.length = n) (hpos : 0 < n) (hcap : n ≤ c)
    (hmax : c ≤ maxLen) (hcell : ∀ j (hj : j < xs.length), w.cell? ⟨b, off + j, none⟩ = some (u xs[j])) :
    Calls Try.prog 9 #[.slice (some ⟨b, off, none⟩) n c, .int .u8 p, .int .u64 q] w fun e w' => e = .returned (.bool true) ∧ Below w.heap.size w w' := by
  have hs : SrcE u w (.slice (some ⟨b, off, none⟩) (min n 40) c) (xs.take (min n 40)) :=
    .inr ⟨⟨b, off, none⟩, c, by simp; omega, by simp; omega, hmax, fun j hj => by
      rw [plain_add, List.getElem_take]; exact hcell j (by simp at hj; omega)⟩
  have hlen : (xs.take (min n 40)).length = min n 40 := by simp; omega
  clear hcell
  generalize xs.take (min n 40) = ts at hs hlen
  obtain ⟨v1, w1, hr1, ho1, hB1⟩ := append_new hs (by omega)
  obtain ⟨v2, w2, hr2, ho2, hB2⟩ := append_new ho1.src (by omega)
  have ho1' := ho1.below hB2
  have hl10 : ∀ gg, v1.ownBlock = some gg → gg < w1.heap.size := fun gg h => (World.ownsRow.lt ho1 gg h).2
  rcases ho1'.cases with ⟨_, rfl⟩ | ⟨g1, c1, rfl, hg1, hl1, hc1, hm1x, hcell1, _⟩
  · simp at hlen; omega
  have hl1' : g1 < w1.heap.size := hl10 g1 rfl
  clear hl10
  rcases ho2.cases with ⟨_, rfl⟩ | ⟨g2, c2, rfl, hg2, hl2, hc2, hm2x, hcell2, hfr2⟩
  · simp at hlen; omega
  have hBw := hB1.trans (hB2.mono hB1.size)
  have hq2 : q < 18446744073709551616 := by omega
  obtain ⟨m, hm⟩ : ∃ m, m = min n 40 := ⟨_, rfl⟩
  rw [← hm] at hlen
  have hm0 : 0 < m := by omega
  have hm40 : m ≤ 40 := by omega
  have hmn : m ≤ n := by omega
  obtain ⟨k, hk⟩ := Int.eq_ofNat_of_zero_le (show 0 ≤ p % (m : Int) from Int.emod_nonneg _ (by omega))
  have hkm : k < m := by have := Int.emod_lt_of_pos p (show 0 < (m : Int) by omega); omega
  obtain ⟨tk, htk, hck⟩ : ∃ tk, Hd (∃ h : k < ts.length, tk = ts[k]) ∧ w2.cell? ⟨g2, k, none⟩ = some (u tk) := ⟨_, ⟨⟨by omega, rfl⟩⟩, hcell2 k (by omega)⟩
  have hfk := hfr2 k
  rw [hlen] at hr1 hr2 ho1 ho1' ho2 hc1 hc2
  have HRS0 : ∀ m', (hmm : m = m' + 1) → ∀ z, RS w g1 c1 g2 c2 m' m ts (ts.set k z) (ts[m']'(by omega)) (w2.setCell ⟨g2, k, none⟩ (u z)) := by
    intro m' hmm z
    have hgne : g1 ≠ g2 := by have := hl1'; omega
    have hc1' : ∀ j (hj : j < ts.length), (w2.setCell ⟨g2, k, none⟩ (u z)).cell? ⟨g1, j, none⟩ = some (u ts[j]) := fun j hj => by
      rw [World.cell?_of_block (Below.heap_setCell w2 ⟨g2, k, none⟩ (u z) g1 hgne)]; exact hcell1 j hj
    refine ⟨.inr ⟨⟨g1, 0, none⟩, c1, by rw [hlen], by omega, hm1x, fun j hj => by rw [plain_add, Nat.zero_add]; exact hc1' j hj⟩,
      .inr ⟨⟨g2, 0, none⟩, c2, by rw [List.length_set, hlen], by rw [List.length_set]; omega, hm2x, fun j hj => ?_⟩,
      .inr ⟨⟨g1, 0, none⟩, c1, by rw [List.length_take]; congr 1; omega, by rw [List.length_take]; omega, hm1x, fun j hj => ?_⟩, hc1' m' (by omega), ?_, hBw.setCell (by have := hB1.size; show w.heap.size ≤ g2; omega) _⟩
    · rw [plain_add, Nat.zero_add]
      rw [List.length_set] at hj
      rw [List.getElem_set]
      split
      · rename_i e; subst e
        obtain ⟨v', hv'⟩ : ∃ v', w2.cell? ⟨g2, k, none⟩ = some v' := ⟨_, hck⟩
        exact cell_set_same hv' _
      · rename_i e
        rw [cell_set_other _ _ _ _ _ e]; exact hcell2 j hj
    · rw [plain_add, Nat.zero_add, List.getElem_take]
      exact hc1' j (by rw [List.length_take] at hj; omega)
    · simp [World.setCell]; exact hl1
  by_cases h40 : n ≤ 40
  · obtain rfl : m = n := by omega
    rw [← hm] at hr1
    obtain ⟨m', rfl⟩ : ∃ m', m = m' + 1 := ⟨m - 1, by omega⟩
    obtain ⟨tl, htl, HRS⟩ : ∃ tl, Hd (∃ h : m' < ts.length, tl = ts[m']) ∧ Hd (∀ z, RS w g1 c1 g2 c2 m' (m' + 1) ts (ts.set k z) tl (w2.setCell ⟨g2, k, none⟩ (u z))) :=
      ⟨_, ⟨by omega, rfl⟩, ⟨HRS0 m' rfl⟩⟩
    have hk' : p % ((m' : Int) + 1) = (k : Int) := by have := hk; rwa [Int.natCast_add] at this
    have HL := Hd.mk hlen
    clear hlen hm hcell1 hcell2 hfr2 hm40 ho1 ho1' ho2 HRS0 hk
    have b1 : (0 : Int) ≤ (m' : Int) := by omega
    have b2 : (m' : Int) ≤ (c1 : Int) := by omega
    have b3 : m' ≤ c1 := by omega
    have b4 : (m' : Int) < (m' : Int) + 1 := by omega
    by_cases hq : 1 ≤ q
    · go_enter Try.func9, Try.ntmps9
      go_wp2_with (first | (at_builtin; refine wpList_append_run rfl _ _ _ rfl rfl rfl hr1 ?_; clear hr1) | (at_builtin; refine wpList_append_run rfl _ _ _ rfl rfl rfl hr2 ?_; clear hr2))
      have HR := HRS.out (tk + BitVec.ofInt 64 q)
      have hne : (joinV ts != joinV (ts.set k (tk + BitVec.ofInt 64 q))) = true := by
        obtain ⟨hk1, hk2⟩ := htk.out
        rw [bne_iff_ne]
        exact join_set ts k hk1 _ (by rw [← hk2]; exact max1 q hq hq1 tk)
      have hla : lastV (joinV ts) (ts.take m') = tl := by
        obtain ⟨hk1, hk2⟩ := htl.out
        rw [last_back ts m' HL.out, hk2]
      have ht1 : ts.length ≤ 4611686018427387904 := by rw [HL.out]; omega
      have ht2 : (ts.set k (tk + BitVec.ofInt 64 q)).length ≤ 4611686018427387904 := by rw [List.length_set, HL.out]; omega
      have ht3 : (ts.take m').length ≤ 4611686018427387904 := by rw [List.length_take]; omega
      clear HRS
      generalize ts.set k (tk + BitVec.ofInt 64 q) = os at hne HR ht2
      generalize w2.setCell { block := g2, off := k } (u (tk + BitVec.ofInt 64 q)) = W at HR ⊢
      go_wp2_with fail
      go_region_held3 (fun w' => w'.cell? ⟨g1, m', none⟩ = some (u tl) ∧ RS w g1 c1 g2 c2 m' (m' + 1) ts os tl w') (first | assumption | exact RS.both (by assumption) | exact (RS.drew (by assumption)).both | exact RS.bothD (by assumption) | exact RS.bothS (by assumption) (by assumption)) (first | (go_at_call 14; (with_reducible refine (join_src _ ts _ (RS.t1 (by assumption)) ht1).mono ?_); rintro e w9 ⟨rfl, rfl⟩) | (go_at_call 14; (with_reducible refine (join_src _ os _ (RS.t2 (by assumption)) ht2).mono ?_); rintro e w9 ⟨rfl, rfl⟩) | (go_at_call 15; (with_reducible refine (last_src _ _ _ _ (RS.t3 (by assumption)) ht3).mono ?_); rintro e w9 ⟨rfl, hb9⟩) | (go_at_call 13; (with_reducible refine (awake_any _).mono ?_); rintro e w9 ⟨rfl, hb9⟩))
      go_wp2_with fail
      go_ret
      exact ⟨rfl, RS.bel_of (by assumption)⟩
    · go_enter Try.func9, Try.ntmps9
      go_wp2_with (first | (at_builtin; refine wpList_append_run rfl _ _ _ rfl rfl rfl hr1 ?_; clear hr1) | (at_builtin; refine wpList_append_run rfl _ _ _ rfl rfl rfl hr2 ?_; clear hr2))
      have HR := HRS.out (tk + 1#64)
      have hne : (joinV ts != joinV (ts.set k (tk + 1#64))) = true := by
        obtain ⟨hk1, hk2⟩ := htk.out
        rw [bne_iff_ne]
        exact join_set ts k hk1 _ (by rw [← hk2]; exact max1 1 (by decide) (by decide) tk)
      have hla : lastV (joinV ts) (ts.take m') = tl := by
        obtain ⟨hk1, hk2⟩ := htl.out
        rw [last_back ts m' HL.out, hk2]
      have ht1 : ts.length ≤ 4611686018427387904 := by rw [HL.out]; omega
      have ht2 : (ts.set k (tk + 1#64)).length ≤ 4611686018427387904 := by rw [List.length_set, HL.out]; omega
      have ht3 : (ts.take m').length ≤ 4611686018427387904 := by rw [List.length_take]; omega
      clear HRS
      generalize ts.set k (tk + 1#64) = os at hne HR ht2
      generalize w2.setCell { block := g2, off := k } (u (tk + 1#64)) = W at HR ⊢
      go_wp2_with fail
      go_region_held3 (fun w' => w'.cell? ⟨g1, m', none⟩ = some (u tl) ∧ RS w g1 c1 g2 c2 m' (m' + 1) ts os tl w') (first | assumption | exact RS.both (by assumption) | exact (RS.drew (by assumption)).both | exact RS.bothD (by assumption) | exact RS.bothS (by assumption) (by assumption)) (first | (go_at_call 14; (with_reducible refine (join_src _ ts _ (RS.t1 (by assumption)) ht1).mono ?_); rintro e w9 ⟨rfl, rfl⟩) | (go_at_call 14; (with_reducible refine (join_src _ os _ (RS.t2 (by assumption)) ht2).mono ?_); rintro e w9 ⟨rfl, rfl⟩) | (go_at_call 15; (with_reducible refine (last_src _ _ _ _ (RS.t3 (by assumption)) ht3).mono ?_); rintro e w9 ⟨rfl, hb9⟩) | (go_at_call 13; (with_reducible refine (awake_any _).mono ?_); rintro e w9 ⟨rfl, hb9⟩))
      go_wp2_with fail
      go_ret
      exact ⟨rfl, RS.bel_of (by assumption)⟩
  · obtain rfl : m = 40 := by omega
    rw [← hm] at hr1
    obtain ⟨tl, htl, HRS⟩ : ∃ tl, Hd (∃ h : 39 < ts.length, tl = ts[39]) ∧ Hd (∀ z, RS w g1 c1 g2 c2 39 40 ts (ts.set k z) tl (w2.setCell ⟨g2, k, none⟩ (u z))) :=
      ⟨_, ⟨by omega, rfl⟩, ⟨HRS0 39 rfl⟩⟩
    have hk' : p % 40 = (k : Int) := hk
    have HL := Hd.mk hlen
    clear hlen hm hcell1 hcell2 hfr2 hm40 ho1 ho1' ho2 HRS0 hk
    have b2 : (39 : Int) ≤ (c1 : Int) := by omega
    have b3 : 39 ≤ c1 := by omega
    by_cases hq : 1 ≤ q
    · go_enter Try.func9, Try.ntmps9
      go_wp2_with (first | (at_builtin; refine wpList_append_run rfl _ _ _ rfl rfl rfl hr1 ?_; clear hr1) | (at_builtin; refine wpList_append_run rfl _ _ _ rfl rfl rfl hr2 ?_; clear hr2))
      have HR := HRS.out (tk + BitVec.ofInt 64 q)
      have hne : (joinV ts != joinV (ts.set k (tk + BitVec.ofInt 64 q))) = true := by
        obtain ⟨hk1, hk2⟩ := htk.out
        rw [bne_iff_ne]
        exact join_set ts k hk1 _ (by rw [← hk2]; exact max1 q hq hq1 tk)
      have hla : lastV (joinV ts) (ts.take 39) = tl := by
        obtain ⟨hk1, hk2⟩ := htl.out
        rw [last_back ts 39 HL.out, hk2]
      have ht1 : ts.length ≤ 4611686018427387904 := by rw [HL.out]; omega
      have ht2 : (ts.set k (tk + BitVec.ofInt 64 q)).length ≤ 4611686018427387904 := by rw [List.length_set, HL.out]; omega
      have ht3 : (ts.take 39).length ≤ 4611686018427387904 := by rw [List.length_take]; omega
      clear HRS
      generalize ts.set k (tk + BitVec.ofInt 64 q) = os at hne HR ht2
      generalize w2.setCell { block := g2, off := k } (u (tk + BitVec.ofInt 64 q)) = W at HR ⊢
      go_wp2_with fail
      go_region_held3 (fun w' => w'.cell? ⟨g1, 39, none⟩ = some (u tl) ∧ RS w g1 c1 g2 c2 39 40 ts os tl w') (first | assumption | exact RS.both (by assumption) | exact (RS.drew (by assumption)).both | exact RS.bothD (by assumption) | exact RS.bothS (by assumption) (by assumption)) (first | (go_at_call 14; (with_reducible refine (join_src _ ts _ (RS.t1 (by assumption)) ht1).mono ?_); rintro e w9 ⟨rfl, rfl⟩) | (go_at_call 14; (with_reducible refine (join_src _ os _ (RS.t2 (by assumption)) ht2).mono ?_); rintro e w9 ⟨rfl, rfl⟩) | (go_at_call 15; (with_reducible refine (last_src _ _ _ _ (RS.t3 (by assumption)) ht3).mono ?_); rintro e w9 ⟨rfl, hb9⟩) | (go_at_call 13; (with_reducible refine (awake_any _).mono ?_); rintro e w9 ⟨rfl, hb9⟩))
      go_wp2_with fail
      go_ret
      exact ⟨rfl, RS.bel_of (by assumption)⟩
    · go_enter Try.func9, Try.ntmps9
      go_wp2_with (first | (at_builtin; refine wpList_append_run rfl _ _ _ rfl rfl rfl hr1 ?_; clear hr1) | (at_builtin; refine wpList_append_run rfl _ _ _ rfl rfl rfl hr2 ?_; clear hr2))
      have HR := HRS.out (tk + 1#64)
      have hne : (joinV ts != joinV (ts.set k (tk + 1#64))) = true := by
        obtain ⟨hk1, hk2⟩ := htk.out
        rw [bne_iff_ne]
        exact join_set ts k hk1 _ (by rw [← hk2]; exact max1 1 (by decide) (by decide) tk)
      have hla : lastV (joinV ts) (ts.take 39) = tl := by
        obtain ⟨hk1, hk2⟩ := htl.out
        rw [last_back ts 39 HL.out, hk2]
      have ht1 : ts.length ≤ 4611686018427387904 := by rw [HL.out]; omega
      have ht2 : (ts.set k (tk + 1#64)).length ≤ 4611686018427387904 := by rw [List.length_set, HL.out]; omega
      have ht3 : (ts.take 39).length ≤ 4611686018427387904 := by rw [List.length_take]; omega
      clear HRS
      generalize ts.set k (tk + 1#64) = os at hne HR ht2
      generalize w2.setCell { block := g2, off := k } (u (tk + 1#64)) = W at HR ⊢
      go_wp2_with fail
      go_region_held3 (fun w' => w'.cell? ⟨g1, 39, none⟩ = some (u tl) ∧ RS w g1 c1 g2 c2 39 40 ts os tl w') (first | assumption | exact RS.both (by assumption) | exact (RS.drew (by assumption)).both | exact RS.bothD (by assumption) | exact RS.bothS (by assumption) (by assumption)) (first | (go_at_call 14; (with_reducible refine (join_src _ ts _ (RS.t1 (by assumption)) ht1).mono ?_); rintro e w9 ⟨rfl, rfl⟩) | (go_at_call 14; (with_reducible refine (join_src _ os _ (RS.t2 (by assumption)) ht2).mono ?_); rintro e w9 ⟨rfl, rfl⟩) | (go_at_call 15; (with_reducible refine (last_src _ _ _ _ (RS.t3 (by assumption)) ht3).mono ?_); rintro e w9 ⟨rfl, hb9⟩) | (go_at_call 13; (with_reducible refine (awake_any _).mono ?_); rintro e w9 ⟨rfl, hb9⟩))
      go_wp2_with fail
      go_ret
      exact ⟨rfl, RS.bel_of (by assumption)⟩

theorem mixDiffers_walk (a : Option Addr) (n c : Nat) (xs : List (BitVec 64)) (p q : Int) (hp0 : 0 ≤ p) (hp1 : p ≤ 255) (hq0 : 0 ≤ q) (hq1 : q ≤ 18446744073709551615) (w : World) (hs : SrcE u w (.slice a n c) xs) (hn : xs.length = n) :
    Calls Try.prog 9 #[.slice a n c, .int .u8 p, .int .u64 q] w fun e w' => e = .returned (.bool true) ∧ Below w.heap.size w w' := by
  rcases hs.cases with ⟨rfl, _⟩ | ⟨b, off, c', hv, hpos, hcap, hmax, _, hcell⟩
  · subst hn
    exact mixDiffers_empty a c p q w hs
  · simp only [Value.slice.injEq] at hv
    obtain ⟨rfl, _, rfl⟩ := hv
    exact mixDiffers_some b off n c xs p q hp0 hp1 hq0 hq1 w hn (by omega) (by omega) hmax hcell
end Go.Proofs.Ytdgmbghbjpmiiaa
