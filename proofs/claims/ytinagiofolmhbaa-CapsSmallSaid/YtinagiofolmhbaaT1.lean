/- Tells: what a table tells is what the reference tells. -/
import Derived.Test.YtinagiofolmhbaaR8
namespace Go.Proofs.Ytinagiofolmhbaa
open Go.RowKit
set_option linter.unusedVariables false
set_option linter.unusedSimpArgs false


section
variable {w : World} {pr : Nat → Prop} {M : Nat} {st : St}
theorem tz_all (h : TabAt w pr M st) {l : List Hn} (hl : liveS st = l) : Calls Try.prog 14 #[.pointer (some ⟨M, 0, none⟩)] w fun e' w' => ∃ a c, e' = .returned (.slice a l.length c) ∧ OwnN hL w' w.heap.size 34 (.slice a l.length c) l ∧ Below w.heap.size w w' := by
  subst hl
  obtain ⟨y, h⟩ := h
  refine (all_any h).mono ?_
  rintro e' w' ⟨v, rfl, hO, hB⟩
  obtain ⟨a, c, rfl⟩ := hO.shape
  exact ⟨a, c, rfl, hO, hB⟩
theorem tz_places (h : TabAt w pr M st) {who : Int} {l : List Int} (hl : placesS st who = l) : Calls Try.prog 30 #[.pointer (some ⟨M, 0, none⟩), .int .i64 who] w fun e' w' => ∃ a c, e' = .returned (.slice a l.length c) ∧ AppI w' w.heap.size (.slice a l.length c) l ∧ Below w.heap.size w w' := by
  subst hl
  obtain ⟨y, h⟩ := h
  refine (places_any h who).mono ?_
  rintro e' w' ⟨v, rfl, hO, hB⟩
  obtain ⟨a, c, rfl⟩ := (OwnE.src hO).shape
  exact ⟨a, c, rfl, hO, hB⟩
theorem tz_below (h : TabAt w pr M st) {s e : Int} {l : List Int} (hb : -9223372036854775808 ≤ s ∧ s ≤ 9223372036854775807) (hl : belowS st s = l) (he : getE st s = e) : Calls Try.prog 27 #[.pointer (some ⟨M, 0, none⟩), .int .i64 s] w fun e' w' => ∃ a c, e' = .returned (.tuple #[.slice a l.length c, .int .i64 e]) ∧ AppI w' w.heap.size (.slice a l.length c) l ∧ Below w.heap.size w w' := by
  subst hl he
  obtain ⟨y, h⟩ := h
  refine (below_any h s hb).mono ?_
  rintro e' w' ⟨v, rfl, hO, hB⟩
  obtain ⟨a, c, rfl⟩ := (OwnE.src hO).shape
  exact ⟨a, c, rfl, hO, hB⟩
end
/-- A row of handles, from its k-th on as it was. -/
def TailH (W : World) (g : Nat) (xs : List Hn) (k : Nat) : Prop := ∃ cur, W.heap[g]? = some (.cells cur 34 (0, 0)) ∧ xs.length * 5 ≤ cur.size ∧ ∀ j (hj : j < xs.length), k ≤ j → ∀ r, r < 5 → cur[j * 5 + r]? = (hL.cs xs[j])[r]?
theorem TailH.ofOwn {W : World} {base n c : Nat} {a : Option Addr} {xs : List Hn} (h : OwnN hL W base 34 (.slice a n c) xs) (h0 : 0 < xs.length) : ∃ g, a = some ⟨g, 0, none⟩ ∧ base ≤ g ∧ TailH W g xs 0 := by
  obtain ⟨g, cur, ha, hg, hh, hc⟩ := h.cur h0
  refine ⟨g, ha, hg, cur, hh, ?_, fun j hj _ r hr => hc j hj r hr⟩
  have h1 := hc (xs.length - 1) (by omega) 4 (by show 4 < 5; omega)
  have h2 : (hL.cs xs[xs.length - 1])[4]? = some (h8 xs[xs.length - 1].rts) := rfl
  rw [h2] at h1
  have h3 := (Array.getElem?_eq_some_iff.1 h1).1
  have h4 : (xs.length - 1) * hL.sz = (xs.length - 1) * 5 := rfl
  omega
theorem TailH.same {W W' : World} {g k : Nat} {xs : List Hn} (h : TailH W g xs k) (hk : W'.heap[g]? = W.heap[g]?) : TailH W' g xs k := by
  obtain ⟨cur, h1, h2⟩ := h
  exact ⟨cur, hk.trans h1, h2⟩
theorem TailH.lt {W : World} {g k : Nat} {xs : List Hn} (h : TailH W g xs k) : g < W.heap.size := by
  obtain ⟨cur, h1, _⟩ := h; exact lt_heap h1
theorem TailH.at {W : World} {g k : Nat} {xs : List Hn} (h : TailH W g xs k) (hk : k < xs.length) {r : Nat} (hr : r < 5) {u : Value} (hu : (hL.cs xs[k])[r]? = some u) : W.cell? ⟨g, k * 5 + r, none⟩ = some u ∧ W.frozen? ⟨g, k * 5 + r, none⟩ = false := by
  obtain ⟨cur, h1, h2, h3⟩ := h
  exact ⟨(cells_cell h1 _).trans ((h3 k hk (Nat.le_refl _) r hr).trans hu), cells_free h1 _⟩
theorem TailH.put {W : World} {g k : Nat} {xs : List Hn} (h : TailH W g xs k) (hk : k < xs.length) (a0 a1 a2 a3 a4 : Value) :
    TailH (((((W.setCell ⟨g, k * 5, none⟩ a0).setCell ⟨g, k * 5 + 1, none⟩ a1).setCell ⟨g, k * 5 + 2, none⟩ a2).setCell ⟨g, k * 5 + 3, none⟩ a3).setCell ⟨g, k * 5 + 4, none⟩ a4) g xs (k + 1) := by
  obtain ⟨cur, h1, h2, h3⟩ := h
  refine ⟨_, cells_set (o := k * 5 + 4) (cells_set (o := k * 5 + 3) (cells_set (o := k * 5 + 2) (cells_set (o := k * 5 + 1) (cells_set (o := k * 5) h1 a0) a1) a2) a3) a4, by simpa using h2, fun j hj hkj r hr => ?_⟩
  have hle : k * 5 + 5 ≤ j * 5 := by omega
  rw [Array.getElem?_setIfInBounds_ne (by omega), Array.getElem?_setIfInBounds_ne (by omega), Array.getElem?_setIfInBounds_ne (by omega), Array.getElem?_setIfInBounds_ne (by omega), Array.getElem?_setIfInBounds_ne (by omega)]
  exact h3 j hj (by omega) r hr
theorem belowAt5 {B g : Nat} {w W : World} (h : Below B w W) (hb : B ≤ g) (o0 o1 o2 o3 o4 : Nat) (a0 a1 a2 a3 a4 : Value) :
    Below B w (((((W.setCell ⟨g, o0, none⟩ a0).setCell ⟨g, o1, none⟩ a1).setCell ⟨g, o2, none⟩ a2).setCell ⟨g, o3, none⟩ a3).setCell ⟨g, o4, none⟩ a4) :=
  ((((h.setCell (p := ⟨g, o0, none⟩) hb _).setCell (p := ⟨g, o1, none⟩) hb _).setCell (p := ⟨g, o2, none⟩) hb _).setCell (p := ⟨g, o3, none⟩) hb _).setCell (p := ⟨g, o4, none⟩) hb _
theorem Below.overI {B : Nat} {w W W' : World} {base : Nat} {v : Value} {l : List Int} (h : Below B w W) (hs : B ≤ W.heap.size) (ho : AppI W base v l) (hb : B ≤ base) (hg : W.grownBy W' v.ownBlock) : Below B w W' :=
  h.trans ⟨hg.os, hg.tape, hg.output, hg.size, fun k hk => hg.block k (Nat.lt_of_lt_of_le hk hs) (fun e => by
    have := World.ownsRow.lt ho k e.symm
    omega)⟩
set_option maxRecDepth 100000 in
set_option maxHeartbeats 4000000 in
theorem tells_any {w : World} {pr : Nat → Prop} {M : Nat} {st : St} {v : Value} {nx : Int} (ht : TabAt w pr M st) (hr : RefT w v st) (hnx : st.next = nx) :
    Calls Try.prog 54 #[.pointer (some ⟨M, 0, none⟩), .agg #[.int .i64 nx, v]] w fun e w' => e = .returned (.bool true) ∧ Below w.heap.size w w' := by
  obtain ⟨a, c, rfl⟩ := hr.rows.shape
  have HTB := Hd.mk ht
  have HRF := Hd.mk hr
  obtain ⟨n0, hn0⟩ : ∃ n, st.made.length = n := ⟨_, rfl⟩
  have HN0 := Hd.mk hn0
  have HN02 : Hd (n0 ≤ 1000) := ⟨by rw [← hn0]; exact hr.few⟩
  have HNX := Hd.mk hnx
  rw [hn0]
  clear ht hr hn0 hnx
  obtain ⟨W0, hW0⟩ : ∃ W, (w.alloc (.cells #[.int .i64 nx, .slice a n0 c] 88)) = W := ⟨_, rfl⟩
  have HB0 : Hd (Below w.heap.size w W0) := ⟨by rw [← hW0]; exact (Below.refl _ _).alloc (Nat.le_refl _) _⟩
  have HX0 : Hd (W0.heap[w.heap.size]? = some (.cells #[.int .i64 nx, .slice a n0 c] 88 (0, 0))) := ⟨by rw [← hW0]; exact heap_alloc_new _ _⟩
  have HW0 := Hd.mk hW0
  clear hW0
  have HC_ := Hd.mk (live_ref (nx := nx) (HRF.out.rows.below HB0.out) (Nat.le_trans HRF.out.few (by omega)))
  rw [HN0.out] at HC_
  go_enter Try.func54, Try.ntmps54
  go_upto_region 1 with fail
  rw [HW0.out]
  clear HW0
  have t0 := (cells_cell HX0.out 0).trans (show _ = some (.int .i64 nx) from rfl)
  have t1 := (cells_cell HX0.out 1).trans (show _ = some (.slice a n0 c) from rfl)
  go_wp2_with fail
  refine HC_.out.mono ?_
  rintro e wA ⟨lv, rfl, hO, hB⟩
  have hO : OwnN rL wA W0.heap.size 104 lv (liveP st) := hO
  obtain ⟨la, lc, rfl⟩ := hO.shape
  have HBA := Hd.mk (HB0.out.trans (hB.mono HB0.out.size))
  have HXA := Hd.mk ((hB.block w.heap.size (lt_heap HX0.out)).trans HX0.out)
  have HLV := Hd.mk hO
  have HTA := Hd.mk (HTB.out.below HBA.out).1
  have HRA := Hd.mk (HRF.out.below HBA.out)
  obtain ⟨n, hn⟩ : ∃ n, (liveP st).length = n := ⟨_, rfl⟩
  have HNP := Hd.mk hn
  have HNL : Hd ((liveS st).length = n) := ⟨by rw [← liveP_len, hn]⟩
  have hn256 : n ≤ 256 := by rw [← HNL.out]; exact HRF.out.ok.live
  rw [hn]
  clear hO hB hn HC_ t0 t1 HX0 HB0 HTB HRF
  go_wp2_with fail
  refine (tz_all HTA.out rfl).mono ?_
  rintro e w2 ⟨al, ac, rfl, hO, hB⟩
  rw [HNL.out] at hO ⊢
  have HB2 := Hd.mk hB
  have HG : Hd (0 < n → ∃ g, al = some ⟨g, 0, none⟩ ∧ wA.heap.size ≤ g ∧ TailH w2 g (liveS st) 0) := ⟨fun h => TailH.ofOwn hO (by rw [HNL.out]; exact h)⟩
  clear hO hB
  go_upto_region 3 with fail
  have hx2 := (HB2.out.block w.heap.size (lt_heap HXA.out)).trans HXA.out
  have hS0 : Below w2.heap.size w2 w2.drew ∧ w2.drew.cell? ⟨w.heap.size, 0, none⟩ = some (.int .i64 nx) := ⟨(Below.refl _ _).drew, (cells_cell hx2 0).trans rfl⟩
  refine wp_region_held_drew (S := fun W => Below w2.heap.size w2 W ∧ W.cell? ⟨w.heap.size, 0, none⟩ = some (.int .i64 nx)) (by kernel_rfl) (hS0) (fun hS_ => ?_)
  try dsimp only at hS_
  refine takeW 0 ?_ rfl (by kernel_rfl) (by kernel_rfl) (by kernel_rfl) (fun _ _ _ h => h) (by rfl) ?_ hS_ ?_
  rotate_left
  · intro w hSw
    try dsimp only at hSw
    go_simp
    with_reducible rfl
  try simp only [Act.put, List.setIfInBounds_toArray, List.set_cons_zero, List.set_cons_succ]
  refine takeW 1 ?_ rfl (by kernel_rfl) (by kernel_rfl) (by kernel_rfl) (fun _ _ _ h => h) (by rfl) ?_ hS_ ?_
  rotate_left
  · intro w hSw
    try dsimp only at hSw
    go_simp
    with_reducible rfl
  try simp only [Act.put, List.setIfInBounds_toArray, List.set_cons_zero, List.set_cons_succ]
  refine takeW 2 ?_ rfl (by kernel_rfl) (by kernel_rfl) (by kernel_rfl) (fun _ _ _ h => h) (by rfl) ?_ hS_ ?_
  rotate_left
  · intro w hSw
    try dsimp only at hSw
    go_simp
    with_reducible rfl
  try simp only [Act.put, List.setIfInBounds_toArray, List.set_cons_zero, List.set_cons_succ]
  refine takeW 3 ?_ rfl (by kernel_rfl) (by kernel_rfl) (by kernel_rfl) (fun _ _ _ h => h) (by rfl) ?_ hS_ ?_
  rotate_left
  · intro w hSw
    try dsimp only at hSw
    go_simp
    with_reducible rfl
  try simp only [Act.put, List.setIfInBounds_toArray, List.set_cons_zero, List.set_cons_succ]
  refine takeW 4 ?_ rfl (by kernel_rfl) (by kernel_rfl) (by kernel_rfl) (fun _ _ _ h => h) (by rfl) ?_ hS_ ?_
  rotate_left
  · intro w hSw
    try dsimp only at hSw
    go_simp
    with_reducible rfl
  try simp only [Act.put, List.setIfInBounds_toArray, List.set_cons_zero, List.set_cons_succ]
  refine takeW 5 ?_ rfl (by kernel_rfl) (by kernel_rfl) (by kernel_rfl) (fun _ _ _ h => h) (by rfl) ?_ hS_ ?_
  rotate_left
  · intro w hSw
    try dsimp only at hSw
    go_simp
    with_reducible rfl
  try simp only [Act.put, List.setIfInBounds_toArray, List.set_cons_zero, List.set_cons_succ]
  refine takeW 6 ?_ rfl (by kernel_rfl) (by kernel_rfl) (by kernel_rfl) (fun _ _ _ h => h) (by rfl) ?_ hS_ ?_
  rotate_left
  · intro w hSw
    try dsimp only at hSw
    go_simp
    with_reducible rfl
  try simp only [Act.put, List.setIfInBounds_toArray, List.set_cons_zero, List.set_cons_succ]
  refine takeW 8 ?_ rfl (by kernel_rfl) (by kernel_rfl) (by kernel_rfl) (fun _ _ _ h => h) (by rfl) ?_ hS_ ?_
  rotate_left
  · intro w hSw
    try dsimp only at hSw
    go_simp
    with_reducible rfl
  try simp only [Act.put, List.setIfInBounds_toArray, List.set_cons_zero, List.set_cons_succ]
  refine takeW 9 ?_ rfl (by kernel_rfl) (by kernel_rfl) (by kernel_rfl) (fun _ _ _ h => h) (by rfl) ?_ hS_ ?_
  rotate_left
  · intro w hSw
    try dsimp only at hSw
    go_simp
    with_reducible rfl
  try simp only [Act.put, List.setIfInBounds_toArray, List.set_cons_zero, List.set_cons_succ]
  refine wpAnyH_ready (rs := [7]) (by kernel_rfl) (by simp) (readyL rfl (fun K hK => ?_) AllReadyH.nil)
  go_simp
  refine (y_len (HTA.out.below (HB2.out.trans (hS_.1.mono HB2.out.size))).1 (n := (n : Int)) (by rw [HNL.out])).mono ?_
  rintro e wk ⟨rfl, hwk⟩
  subst hwk
  have hS2_ : Below w2.heap.size w2 w2.drew ∧ w2.drew.cell? ⟨w.heap.size, 0, none⟩ = some (.int .i64 nx) := ⟨hS_.1.trans ((Below.refl _ _).mono hS_.1.size), cell_keep hS_.2 (Below.refl _ _)⟩
  refine hK.out _ _ hS2_ (fun _ => ?_)
  clear hK K hS_
  have hS_ := hS2_
  clear hS2_
  try simp only [Act.put, List.setIfInBounds_toArray, List.set_cons_zero, List.set_cons_succ]
  refine takeW 10 ?_ rfl (by kernel_rfl) (by kernel_rfl) (by kernel_rfl) (fun _ _ _ h => h) (by rfl) ?_ hS_ ?_
  rotate_left
  · intro w hSw
    try dsimp only at hSw
    go_simp
    with_reducible rfl
  try simp only [Act.put, List.setIfInBounds_toArray, List.set_cons_zero, List.set_cons_succ]
  refine takeW 11 ?_ rfl (by kernel_rfl) (by kernel_rfl) (by kernel_rfl) (fun _ _ _ h => h) (by rfl) ?_ hS_ ?_
  rotate_left
  · intro w hSw
    try dsimp only at hSw
    go_simp
    with_reducible rfl
  try simp only [Act.put, List.setIfInBounds_toArray, List.set_cons_zero, List.set_cons_succ]
  refine takeW 12 ?_ rfl (by kernel_rfl) (by kernel_rfl) (by kernel_rfl) (fun _ _ _ h => h) (by rfl) ?_ hS_ ?_
  rotate_left
  · intro w hSw
    try dsimp only at hSw
    go_simp
    with_reducible rfl
  try simp only [Act.put, List.setIfInBounds_toArray, List.set_cons_zero, List.set_cons_succ]
  refine takeW 13 ?_ rfl (by kernel_rfl) (by kernel_rfl) (by kernel_rfl) (fun _ _ _ h => h) (by rfl) ?_ hS_ ?_
  rotate_left
  · intro w hSw
    try dsimp only at hSw
    go_simp
    with_reducible rfl
  try simp only [Act.put, List.setIfInBounds_toArray, List.set_cons_zero, List.set_cons_succ]
  refine takeW 15 ?_ rfl (by kernel_rfl) (by kernel_rfl) (by kernel_rfl) (fun _ _ _ h => h) (by rfl) ?_ hS_ ?_
  rotate_left
  · intro w hSw
    try dsimp only at hSw
    go_simp
    with_reducible rfl
  try simp only [Act.put, List.setIfInBounds_toArray, List.set_cons_zero, List.set_cons_succ]
  refine takeW 16 ?_ rfl (by kernel_rfl) (by kernel_rfl) (by kernel_rfl) (fun _ _ _ h => h) (by rfl) ?_ hS_ ?_
  rotate_left
  · intro w hSw
    try dsimp only at hSw
    go_simp
    with_reducible rfl
  try simp only [Act.put, List.setIfInBounds_toArray, List.set_cons_zero, List.set_cons_succ]
  refine wpAnyH_ready (rs := [14]) (by kernel_rfl) (by simp) (readyL rfl (fun K hK => ?_) AllReadyH.nil)
  go_simp
  refine (y_next (HTA.out.below (HB2.out.trans (hS_.1.mono HB2.out.size))).1 HNX.out).mono ?_
  rintro e wk ⟨rfl, hwk⟩
  subst hwk
  have hS2_ : Below w2.heap.size w2 w2.drew ∧ w2.drew.cell? ⟨w.heap.size, 0, none⟩ = some (.int .i64 nx) := ⟨hS_.1.trans ((Below.refl _ _).mono hS_.1.size), cell_keep hS_.2 (Below.refl _ _)⟩
  refine hK.out _ _ hS2_ (fun _ => ?_)
  clear hK K hS_
  have hS_ := hS2_
  clear hS2_
  try simp only [Act.put, List.setIfInBounds_toArray, List.set_cons_zero, List.set_cons_succ]
  refine takeW 17 ?_ rfl (by kernel_rfl) (by kernel_rfl) (by kernel_rfl) (fun _ _ _ h => h) (by rfl) ?_ hS_ ?_
  rotate_left
  · intro w hSw
    try dsimp only at hSw
    go_simp
    with_reducible rfl
  try simp only [Act.put, List.setIfInBounds_toArray, List.set_cons_zero, List.set_cons_succ]
  refine takeW 18 ?_ rfl (by kernel_rfl) (by kernel_rfl) (by kernel_rfl) (fun _ _ _ h => h) (by rfl) ?_ hS_ ?_
  rotate_left
  · intro w hSw
    try dsimp only at hSw
    go_simp
    with_reducible rfl
  try simp only [Act.put, List.setIfInBounds_toArray, List.set_cons_zero, List.set_cons_succ]
  refine wpAnyH_done (by kernel_rfl) ?_ _
  clear hS0 hx2
  obtain ⟨hb3, -⟩ := hS_
  have HB3 := Hd.mk (HB2.out.trans (hb3.mono HB2.out.size))
  have HG3 : Hd (∀ g, al = some ⟨g, 0, none⟩ → 0 < n → wA.heap.size ≤ g ∧ TailH w2.drew g (liveS st) 0) := ⟨fun g hg h0 => by
    obtain ⟨g2, e2, h2, h3⟩ := HG.out h0
    rw [e2] at hg
    cases hg
    exact ⟨h2, h3.same rfl⟩⟩
  have HGS : Hd (0 < n → ∃ g, al = some ⟨g, 0, none⟩) := ⟨fun h => by obtain ⟨g, e, _⟩ := HG.out h; exact ⟨g, e⟩⟩
  clear hb3 HG HB2
  obtain ⟨w3, hw3⟩ : ∃ W, w2.drew = W := ⟨_, rfl⟩
  rw [hw3] at HB3 HG3 ⊢
  clear hw3
  go_upto_region 6 with fail
  go_loopw [52] (fun i W => ∃ k : Nat, k ≤ n ∧ i = .int .i64 k ∧ Hd (Below wA.heap.size wA W) ∧ Hd (∀ g, al = some ⟨g, 0, none⟩ → 0 < n → wA.heap.size ≤ g ∧ TailH W g (liveS st) k)) (fun i _ => n - (intOf i).toNat)
  case atStart => exact ⟨0, by omega, rfl, HB3, HG3⟩
  case round =>
    obtain ⟨k, hk, rfl, HB, HGT⟩ := hrel
    by_cases hlt : k < n
    · obtain ⟨g, hg⟩ := HGS.out (by omega)
      obtain ⟨hgA, htl⟩ := HGT.out g hg (by omega)
      subst hg
      have hkl : k < (liveS st).length := by rw [HNL.out]; exact hlt
      have hkp : k < (liveP st).length := by rw [HNP.out]; exact hlt
      obtain ⟨b, off, hbe, _, hc⟩ := (HLV.out.src.below HB.out).at k hkp
      cases hbe
      rw [liveP_at hkp hkl] at hc
      have hat := fun r hr u hu => htl.at hkl (r := r) hr (u := u) hu
      have HTL := Hd.mk htl
      have HPUT := Hd.mk (fun (W : World) (h : W.heap[g]? = wr.heap[g]?) a0 a1 a2 a3 a4 => (htl.same h).put hkl a0 a1 a2 a3 a4)
      have HAT := Hd.mk (fun (W : World) (h : W.heap[g]? = wr.heap[g]?) r hr u hu => (htl.same h).at hkl (r := r) hr (u := u) hu)
      obtain ⟨⟨x0, x1, x2, x3, x4⟩, hx⟩ : ∃ x, (liveS st)[k] = x := ⟨_, rfl⟩
      rw [hx] at hc hat HAT
      have v0 : wr.cell? ⟨g, k * 5, none⟩ = some (.int .i64 x0) := (hat 0 (by omega) _ rfl).1
      have v1 : wr.cell? ⟨g, k * 5 + 1, none⟩ = some (.int .i64 x1) := (hat 1 (by omega) _ rfl).1
      have v2 : wr.cell? ⟨g, k * 5 + 2, none⟩ = some (.int .i64 x2) := (hat 2 (by omega) _ rfl).1
      have v3 : wr.cell? ⟨g, k * 5 + 3, none⟩ = some (.int .i64 x3) := (hat 3 (by omega) _ rfl).1
      have v4 : wr.cell? ⟨g, k * 5 + 4, none⟩ = some (h8 x4) := (hat 4 (by omega) _ rfl).1
      have k0 : (0 : Int) ≤ (k : Int) := by omega
      have k1 : (k : Int) < (n : Int) := by omega
      have HK := Hd.mk (And.intro k0 k1)
      have HWK : Hd (IntKind.i64.wrap ((k : Int) + 1) = (k : Int) + 1) := ⟨IntWalk.i64_in _ ⟨by omega, by omega⟩⟩
      have HLT := Hd.mk hlt
      have HGA := Hd.mk hgA
      have HCC : Hd (∀ r u, (rL.cs (⟨x0, x1, x2, x3, x4⟩, false))[r]? = some u → wr.cell? ⟨b, off + k * 6 + r, none⟩ = some u) := ⟨hc⟩
      clear hlt hk hkl hkp hc hat hx htl hgA HGT
      go_upto_region 8 with fail
      obtain ⟨W1, hW1⟩ : ∃ W, (wr.alloc (.cells #[.int .i64 x0, .int .i64 x1, .int .i64 x2, .int .i64 x3, h8 x4] 34)) = W := ⟨_, rfl⟩
      have hbx : W1.heap[wr.heap.size]? = some (.cells #[.int .i64 x0, .int .i64 x1, .int .i64 x2, .int .i64 x3, h8 x4] 34 (0, 0)) := by rw [← hW1]; exact heap_alloc_new _ _
      have hB : Below wr.heap.size wr W1 := by rw [← hW1]; exact (Below.refl _ _).alloc (Nat.le_refl _) _
      rw [hW1]
      clear hW1
      obtain ⟨X, hX⟩ : ∃ X, wr.heap.size = X := ⟨_, rfl⟩
      have hcc := fun r u hu => cell_keep (HCC.out r u hu) hB
      have hgw : W1.heap[g]? = wr.heap[g]? := hB.block g HTL.out.lt
      have HGW := Hd.mk hgw
      have HB1 := Hd.mk (HB.out.trans (hB.mono HB.out.size))
      have HGL : Hd (g < W1.heap.size) := ⟨Nat.lt_of_lt_of_le HTL.out.lt hB.size⟩
      rw [hX] at hbx ⊢
      clear hB hX v0 v1 v2 v3 v4 hgw
      have hS0 : Below W1.heap.size W1 W1.drew ∧ W1.drew.cell? ⟨X, 0, none⟩ = some (Value.int .i64 x0) ∧ W1.drew.cell? ⟨X, 1, none⟩ = some (Value.int .i64 x1) ∧ W1.drew.cell? ⟨X, 2, none⟩ = some (Value.int .i64 x2) ∧ W1.drew.cell? ⟨X, 3, none⟩ = some (Value.int .i64 x3) ∧ W1.drew.cell? ⟨X, 4, none⟩ = some (h8 x4) ∧ W1.drew.cell? ⟨b, off + k * 6, none⟩ = some (Value.int .i64 x0) ∧ W1.drew.cell? ⟨b, off + k * 6 + 1, none⟩ = some (Value.int .i64 x1) ∧ W1.drew.cell? ⟨b, off + k * 6 + 2, none⟩ = some (Value.int .i64 x2) ∧ W1.drew.cell? ⟨b, off + k * 6 + 3, none⟩ = some (Value.int .i64 x3) ∧ W1.drew.cell? ⟨b, off + k * 6 + 4, none⟩ = some (Value.int .i64 (n8 x4)) ∧ W1.drew.cell? ⟨b, off + k * 6 + 5, none⟩ = some (Value.bool false) := ⟨(Below.refl _ _).drew, (cells_cell hbx 0).trans rfl, (cells_cell hbx 1).trans rfl, (cells_cell hbx 2).trans rfl, (cells_cell hbx 3).trans rfl, (cells_cell hbx 4).trans rfl, hcc 0 _ rfl, hcc 1 _ rfl, hcc 2 _ rfl, hcc 3 _ rfl, hcc 4 _ rfl, hcc 5 _ rfl⟩
      clear hcc hbx
      refine wp_region_held_drew (S := fun W => Below W1.heap.size W1 W ∧ W.cell? ⟨X, 0, none⟩ = some (Value.int .i64 x0) ∧ W.cell? ⟨X, 1, none⟩ = some (Value.int .i64 x1) ∧ W.cell? ⟨X, 2, none⟩ = some (Value.int .i64 x2) ∧ W.cell? ⟨X, 3, none⟩ = some (Value.int .i64 x3) ∧ W.cell? ⟨X, 4, none⟩ = some (h8 x4) ∧ W.cell? ⟨b, off + k * 6, none⟩ = some (Value.int .i64 x0) ∧ W.cell? ⟨b, off + k * 6 + 1, none⟩ = some (Value.int .i64 x1) ∧ W.cell? ⟨b, off + k * 6 + 2, none⟩ = some (Value.int .i64 x2) ∧ W.cell? ⟨b, off + k * 6 + 3, none⟩ = some (Value.int .i64 x3) ∧ W.cell? ⟨b, off + k * 6 + 4, none⟩ = some (Value.int .i64 (n8 x4)) ∧ W.cell? ⟨b, off + k * 6 + 5, none⟩ = some (Value.bool false)) (by kernel_rfl) (hS0) (fun hS_ => ?_)
      try dsimp only at hS_
      refine takeW 0 ?_ rfl (by kernel_rfl) (by kernel_rfl) (by kernel_rfl) (fun _ _ _ h => h) (by rfl) ?_ hS_ ?_
      rotate_left
      · intro w hSw
        try dsimp only at hSw
        go_simp
        with_reducible rfl
      try simp only [Act.put, List.setIfInBounds_toArray, List.set_cons_zero, List.set_cons_succ]
      refine takeW 1 ?_ rfl (by kernel_rfl) (by kernel_rfl) (by kernel_rfl) (fun _ _ _ h => h) (by rfl) ?_ hS_ ?_
      rotate_left
      · intro w hSw
        try dsimp only at hSw
        go_simp
        with_reducible rfl
      try simp only [Act.put, List.setIfInBounds_toArray, List.set_cons_zero, List.set_cons_succ]
      refine takeW 2 ?_ rfl (by kernel_rfl) (by kernel_rfl) (by kernel_rfl) (fun _ _ _ h => h) (by rfl) ?_ hS_ ?_
      rotate_left
      · intro w hSw
        try dsimp only at hSw
        go_simp
        with_reducible rfl
      try simp only [Act.put, List.setIfInBounds_toArray, List.set_cons_zero, List.set_cons_succ]
      refine takeW 3 ?_ rfl (by kernel_rfl) (by kernel_rfl) (by kernel_rfl) (fun _ _ _ h => h) (by rfl) ?_ hS_ ?_
      rotate_left
      · intro w hSw
        try dsimp only at hSw
        go_simp
        with_reducible rfl
      try simp only [Act.put, List.setIfInBounds_toArray, List.set_cons_zero, List.set_cons_succ]
      refine takeW 4 ?_ rfl (by kernel_rfl) (by kernel_rfl) (by kernel_rfl) (fun _ _ _ h => h) (by rfl) ?_ hS_ ?_
      rotate_left
      · intro w hSw
        try dsimp only at hSw
        go_simp
        with_reducible rfl
      try simp only [Act.put, List.setIfInBounds_toArray, List.set_cons_zero, List.set_cons_succ]
      refine wpAnyH_ready (rs := [5]) (by kernel_rfl) (by simp) (readyL rfl (fun K hK => ?_) AllReadyH.nil)
      go_simp
      refine (refis_any x0 x1 x2 x3 x4 x0 x1 x2 x3 x4 false _).mono ?_
      rintro e wk ⟨rfl, hBk⟩
      rw [decide_eq_true rfl]
      have hS2_ : Below W1.heap.size W1 wk ∧ wk.cell? ⟨X, 0, none⟩ = some (Value.int .i64 x0) ∧ wk.cell? ⟨X, 1, none⟩ = some (Value.int .i64 x1) ∧ wk.cell? ⟨X, 2, none⟩ = some (Value.int .i64 x2) ∧ wk.cell? ⟨X, 3, none⟩ = some (Value.int .i64 x3) ∧ wk.cell? ⟨X, 4, none⟩ = some (h8 x4) ∧ wk.cell? ⟨b, off + k * 6, none⟩ = some (Value.int .i64 x0) ∧ wk.cell? ⟨b, off + k * 6 + 1, none⟩ = some (Value.int .i64 x1) ∧ wk.cell? ⟨b, off + k * 6 + 2, none⟩ = some (Value.int .i64 x2) ∧ wk.cell? ⟨b, off + k * 6 + 3, none⟩ = some (Value.int .i64 x3) ∧ wk.cell? ⟨b, off + k * 6 + 4, none⟩ = some (Value.int .i64 (n8 x4)) ∧ wk.cell? ⟨b, off + k * 6 + 5, none⟩ = some (Value.bool false) := ⟨hS_.1.trans (hBk.mono hS_.1.size), cell_keep hS_.2.1 hBk, cell_keep hS_.2.2.1 hBk, cell_keep hS_.2.2.2.1 hBk, cell_keep hS_.2.2.2.2.1 hBk, cell_keep hS_.2.2.2.2.2.1 hBk, cell_keep hS_.2.2.2.2.2.2.1 hBk, cell_keep hS_.2.2.2.2.2.2.2.1 hBk, cell_keep hS_.2.2.2.2.2.2.2.2.1 hBk, cell_keep hS_.2.2.2.2.2.2.2.2.2.1 hBk, cell_keep hS_.2.2.2.2.2.2.2.2.2.2.1 hBk, cell_keep hS_.2.2.2.2.2.2.2.2.2.2.2 hBk⟩
      refine hK.out _ _ hS2_ (fun _ => ?_)
      clear hK K hS_
      have hS_ := hS2_
      clear hS2_
      try simp only [Act.put, List.setIfInBounds_toArray, List.set_cons_zero, List.set_cons_succ]
      refine takeW 6 ?_ rfl (by kernel_rfl) (by kernel_rfl) (by kernel_rfl) (fun _ _ _ h => h) (by rfl) ?_ hS_ ?_
      rotate_left
      · intro w hSw
        try dsimp only at hSw
        go_simp
        with_reducible rfl
      try simp only [Act.put, List.setIfInBounds_toArray, List.set_cons_zero, List.set_cons_succ]
      refine wpAnyH_done (by kernel_rfl) ?_ _
      clear hS0
      obtain ⟨hbk, -⟩ := hS_
      have hgk : wk.heap[g]? = wr.heap[g]? := (hbk.block g HGL.out).trans HGW.out
      have q0 : wk.cell? ⟨g, k * 5, none⟩ = some (.int .i64 x0) := (HAT.out wk hgk 0 (by omega) _ rfl).1
      have q1 : wk.cell? ⟨g, k * 5 + 1, none⟩ = some (.int .i64 x1) := (HAT.out wk hgk 1 (by omega) _ rfl).1
      have q2 : wk.cell? ⟨g, k * 5 + 2, none⟩ = some (.int .i64 x2) := (HAT.out wk hgk 2 (by omega) _ rfl).1
      have q3 : wk.cell? ⟨g, k * 5 + 3, none⟩ = some (.int .i64 x3) := (HAT.out wk hgk 3 (by omega) _ rfl).1
      have q4 : wk.cell? ⟨g, k * 5 + 4, none⟩ = some (h8 x4) := (HAT.out wk hgk 4 (by omega) _ rfl).1
      have f0 : wk.frozen? ⟨g, k * 5, none⟩ = false := (HAT.out wk hgk 0 (by omega) _ rfl).2
      have f1 : wk.frozen? ⟨g, k * 5 + 1, none⟩ = false := (HAT.out wk hgk 1 (by omega) _ rfl).2
      have f2 : wk.frozen? ⟨g, k * 5 + 2, none⟩ = false := (HAT.out wk hgk 2 (by omega) _ rfl).2
      have f3 : wk.frozen? ⟨g, k * 5 + 3, none⟩ = false := (HAT.out wk hgk 3 (by omega) _ rfl).2
      have f4 : wk.frozen? ⟨g, k * 5 + 4, none⟩ = false := (HAT.out wk hgk 4 (by omega) _ rfl).2
      have HPK := Hd.mk (HPUT.out wk hgk)
      have HBK := Hd.mk (HB1.out.trans (hbk.mono HB1.out.size))
      have k0 := HK.out.1
      have k1 := HK.out.2
      have hwk := HWK.out
      clear hbk hgk HPUT HAT HTL HGW HGL HCC HB1
      go_wp2_with fail
      go_roundw
      case rel => exact ⟨k + 1, by have := HLT.out; omega, by go_num, ⟨belowAt5 HBK.out HGA.out _ _ _ _ _ _ _ _ _ _⟩, ⟨fun g2 hg2 _ => by cases hg2; exact ⟨HGA.out, HPK.out _ _ _ _ _⟩⟩⟩
      case measure => have := HLT.out; simp [intOf]; omega
    · obtain rfl : k = n := by omega
      have HXr := Hd.mk ((HB.out.block w.heap.size (lt_heap HXA.out)).trans HXA.out)
      have t1 := (cells_cell HXr.out 1).trans (show _ = some (.slice a n0 c) from rfl)
      clear hlt hk HGT HGS
      go_upto_region 13 with fail
      clear t1
      go_loopw [72] (fun i W => ∃ k : Nat, k ≤ n0 ∧ i = .int .i64 k ∧ Hd (Below wA.heap.size wA W)) (fun i _ => n0 - (intOf i).toNat)
      case atStart => exact ⟨0, by omega, rfl, HB⟩
      case round =>
        clear HB HXr
        obtain ⟨k, hk, rfl, HB⟩ := hrel
        by_cases hlt : k < n0
        · have hkl : k < st.made.length := by rw [HN0.out]; exact hlt
          obtain ⟨b, off, hbe, _, hc⟩ := (HRA.out.rows.below HB.out).at k hkl
          cases hbe
          have hmm := List.getElem_mem hkl
          obtain ⟨⟨⟨x0, x1, x2, x3, x4⟩, x5⟩, hx⟩ : ∃ x, st.made[k] = x := ⟨_, rfl⟩
          rw [hx] at hc hmm
          have hlo := HRA.out.ok.lo _ hmm
          have hn2 := HRA.out.ok.n2
          simp only at hlo
          have HXR : Hd (-9223372036854775808 ≤ x0 ∧ x0 ≤ 9223372036854775807) := ⟨by omega⟩
          have v0 : wr.cell? ⟨b, off + k * 6, none⟩ = some (Value.int .i64 x0) := hc 0 _ rfl
          have v1 : wr.cell? ⟨b, off + k * 6 + 1, none⟩ = some (Value.int .i64 x1) := hc 1 _ rfl
          have v2 : wr.cell? ⟨b, off + k * 6 + 2, none⟩ = some (Value.int .i64 x2) := hc 2 _ rfl
          have v3 : wr.cell? ⟨b, off + k * 6 + 3, none⟩ = some (Value.int .i64 x3) := hc 3 _ rfl
          have v4 : wr.cell? ⟨b, off + k * 6 + 4, none⟩ = some (Value.int .i64 (n8 x4)) := hc 4 _ rfl
          have v5 : wr.cell? ⟨b, off + k * 6 + 5, none⟩ = some (Value.bool x5) := hc 5 _ rfl
          have k0 : (0 : Int) ≤ (k : Int) := by omega
          have k1 : (k : Int) < (n0 : Int) := by omega
          have HWK : Hd (IntKind.i64.wrap ((k : Int) + 1) = (k : Int) + 1) := ⟨IntWalk.i64_in _ ⟨by omega, by have := HN02.out; omega⟩⟩
          have HLT := Hd.mk hlt
          obtain ⟨ge, hge⟩ : ∃ e, getE st x0 = e := ⟨_, rfl⟩
          obtain ⟨⟨y0, y1, y2, y3, y4⟩, hgv⟩ : ∃ e, getV st x0 = e := ⟨_, rfl⟩
          obtain ⟨lb, hlb⟩ : ∃ l, belowS st x0 = l := ⟨_, rfl⟩
          have HGE := Hd.mk hge
          have HGV := Hd.mk hgv
          have HLB := Hd.mk hlb
          have hlbl : lb.length ≤ 256 := by
            rw [← hlb]
            unfold belowS belowL
            split
            · rw [List.length_map]; exact Nat.le_trans (List.length_filter_le _ _) HRA.out.ok.live
            · simp
          have HLBL := Hd.mk hlbl
          have HXr := Hd.mk ((HB.out.block w.heap.size (lt_heap HXA.out)).trans HXA.out)
          clear hlt hk hkl hc hmm hlo hn2 hx hge hgv hlb hlbl
          go_upto_region 15 with fail
          clear v0 v1 v2 v3 v4 v5 k0
          obtain ⟨V1, hV⟩ : ∃ W, (wr.alloc (.cells #[.int .i64 x0, .int .i64 x1, .int .i64 x2, .int .i64 x3, .int .i64 (n8 x4), .bool x5] 104)) = W := ⟨_, rfl⟩
          have hbx : V1.heap[wr.heap.size]? = some (.cells #[.int .i64 x0, .int .i64 x1, .int .i64 x2, .int .i64 x3, .int .i64 (n8 x4), .bool x5] 104 (0, 0)) := by rw [← hV]; exact heap_alloc_new _ _
          have hB : Below wr.heap.size wr V1 := by rw [← hV]; exact (Below.refl _ _).alloc (Nat.le_refl _) _
          rw [hV]
          clear hV
          obtain ⟨Bm1, hX⟩ : ∃ X, wr.heap.size = X := ⟨_, rfl⟩
          have HBl2 := Hd.mk (HB.out.trans (hB.mono HB.out.size))
          have HXt2 := Hd.mk ((hB.block w.heap.size (lt_heap HXr.out)).trans HXr.out)
          clear HB HXr hB
          rw [hX] at hbx ⊢
          have HXm2 := Hd.mk hbx
          clear hX hbx
          have m0 := (cells_cell HXm2.out 0).trans (show _ = some (Value.int .i64 x0) from rfl)
          have m1 := (cells_cell HXm2.out 1).trans (show _ = some (Value.int .i64 x1) from rfl)
          have m2 := (cells_cell HXm2.out 2).trans (show _ = some (Value.int .i64 x2) from rfl)
          have m3 := (cells_cell HXm2.out 3).trans (show _ = some (Value.int .i64 x3) from rfl)
          have m4 := (cells_cell HXm2.out 4).trans (show _ = some (Value.int .i64 (n8 x4)) from rfl)
          have m5 := (cells_cell HXm2.out 5).trans (show _ = some (Value.bool x5) from rfl)
          go_wp2_with fail
          refine (y_get (HTA.out.below HBl2.out).1 (s := x0) (a := y0) (b := y1) (c := y2) (d := y3) (r := y4) (e := ge) HXR.out HGV.out HGE.out).mono ?_
          rintro e w3_ ⟨rfl, hB⟩
          clear m0 m1 m2 m3 m4 m5
          have HBl4 := Hd.mk (HBl2.out.trans (hB.mono HBl2.out.size))
          have HXt4 := Hd.mk ((hB.block w.heap.size (lt_heap HXt2.out)).trans HXt2.out)
          have HXm4 := Hd.mk ((hB.block Bm1 (lt_heap HXm2.out)).trans HXm2.out)
          clear HBl2 HXt2 HXm2 hB
          go_upto_region 16 with fail
          obtain ⟨V5, hV⟩ : ∃ W, (w3_.alloc (.cells #[.int .i64 y0, .int .i64 y1, .int .i64 y2, .int .i64 y3, h8 y4] 34)) = W := ⟨_, rfl⟩
          have hbx : V5.heap[w3_.heap.size]? = some (.cells #[.int .i64 y0, .int .i64 y1, .int .i64 y2, .int .i64 y3, h8 y4] 34 (0, 0)) := by rw [← hV]; exact heap_alloc_new _ _
          have hB : Below w3_.heap.size w3_ V5 := by rw [← hV]; exact (Below.refl _ _).alloc (Nat.le_refl _) _
          rw [hV]
          clear hV
          obtain ⟨Bh5, hX⟩ : ∃ X, w3_.heap.size = X := ⟨_, rfl⟩
          have HBl6 := Hd.mk (HBl4.out.trans (hB.mono HBl4.out.size))
          have HXt6 := Hd.mk ((hB.block w.heap.size (lt_heap HXt4.out)).trans HXt4.out)
          have HXm6 := Hd.mk ((hB.block Bm1 (lt_heap HXm4.out)).trans HXm4.out)
          clear HBl4 HXt4 HXm4 hB
          rw [hX] at hbx ⊢
          have HXh6 := Hd.mk hbx
          clear hX hbx
          have m0 := (cells_cell HXm6.out 0).trans (show _ = some (Value.int .i64 x0) from rfl)
          have m1 := (cells_cell HXm6.out 1).trans (show _ = some (Value.int .i64 x1) from rfl)
          have m2 := (cells_cell HXm6.out 2).trans (show _ = some (Value.int .i64 x2) from rfl)
          have m3 := (cells_cell HXm6.out 3).trans (show _ = some (Value.int .i64 x3) from rfl)
          have m4 := (cells_cell HXm6.out 4).trans (show _ = some (Value.int .i64 (n8 x4)) from rfl)
          have m5 := (cells_cell HXm6.out 5).trans (show _ = some (Value.bool x5) from rfl)
          have t0 := (cells_cell HXt6.out 0).trans (show _ = some (Value.int .i64 nx) from rfl)
          have t1 := (cells_cell HXt6.out 1).trans (show _ = some (Value.slice (some ⟨b, off, none⟩) n0 c) from rfl)
          have HC_ := Hd.mk (refget_at (s := x0) (HRA.out.below HBl6.out) HNX.out HGV.out HGE.out)
          rw [HN0.out] at HC_
          go_wp2_with fail
          refine (HC_.out).mono ?_
          rintro e w7_ ⟨rfl, hB⟩
          clear HC_ m0 m1 m2 m3 m4 m5 t0 t1
          have HBl8 := Hd.mk (HBl6.out.trans (hB.mono HBl6.out.size))
          have HXt8 := Hd.mk ((hB.block w.heap.size (lt_heap HXt6.out)).trans HXt6.out)
          have HXm8 := Hd.mk ((hB.block Bm1 (lt_heap HXm6.out)).trans HXm6.out)
          have HXh8 := Hd.mk ((hB.block Bh5 (lt_heap HXh6.out)).trans HXh6.out)
          clear HBl6 HXt6 HXm6 HXh6 hB
          go_upto_region 17 with fail
          obtain ⟨V9, hV⟩ : ∃ W, (w7_.alloc (.cells #[.int .i64 y0, .int .i64 y1, .int .i64 y2, .int .i64 y3, .int .i64 (n8 y4), .bool false] 104)) = W := ⟨_, rfl⟩
          have hbx : V9.heap[w7_.heap.size]? = some (.cells #[.int .i64 y0, .int .i64 y1, .int .i64 y2, .int .i64 y3, .int .i64 (n8 y4), .bool false] 104 (0, 0)) := by rw [← hV]; exact heap_alloc_new _ _
          have hB : Below w7_.heap.size w7_ V9 := by rw [← hV]; exact (Below.refl _ _).alloc (Nat.le_refl _) _
          rw [hV]
          clear hV
          obtain ⟨Br9, hX⟩ : ∃ X, w7_.heap.size = X := ⟨_, rfl⟩
          have HBl10 := Hd.mk (HBl8.out.trans (hB.mono HBl8.out.size))
          have HXt10 := Hd.mk ((hB.block w.heap.size (lt_heap HXt8.out)).trans HXt8.out)
          have HXm10 := Hd.mk ((hB.block Bm1 (lt_heap HXm8.out)).trans HXm8.out)
          have HXh10 := Hd.mk ((hB.block Bh5 (lt_heap HXh8.out)).trans HXh8.out)
          clear HBl8 HXt8 HXm8 HXh8 hB
          rw [hX] at hbx ⊢
          have HXr10 := Hd.mk hbx
          clear hX hbx
          have m0 := (cells_cell HXm10.out 0).trans (show _ = some (Value.int .i64 x0) from rfl)
          have m1 := (cells_cell HXm10.out 1).trans (show _ = some (Value.int .i64 x1) from rfl)
          have m2 := (cells_cell HXm10.out 2).trans (show _ = some (Value.int .i64 x2) from rfl)
          have m3 := (cells_cell HXm10.out 3).trans (show _ = some (Value.int .i64 x3) from rfl)
          have m4 := (cells_cell HXm10.out 4).trans (show _ = some (Value.int .i64 (n8 x4)) from rfl)
          have m5 := (cells_cell HXm10.out 5).trans (show _ = some (Value.bool x5) from rfl)
          go_wp2_with fail
          have HOBSZ := Hd.mk (HBl10.out.size)
          refine (tz_below (HTA.out.below HBl10.out).1 (s := x0) (l := lb) (e := ge) HXR.out HLB.out HGE.out).mono ?_
          rintro e w11_ ⟨l1, c1, rfl, hl, hB⟩
          clear m0 m1 m2 m3 m4 m5
          have HBl12 := Hd.mk (HBl10.out.trans (hB.mono HBl10.out.size))
          have HXt12 := Hd.mk ((hB.block w.heap.size (lt_heap HXt10.out)).trans HXt10.out)
          have HXm12 := Hd.mk ((hB.block Bm1 (lt_heap HXm10.out)).trans HXm10.out)
          have HXh12 := Hd.mk ((hB.block Bh5 (lt_heap HXh10.out)).trans HXh10.out)
          have HXr12 := Hd.mk ((hB.block Br9 (lt_heap HXr10.out)).trans HXr10.out)
          clear HBl10 HXt10 HXm10 HXh10 HXr10 hB
          have HOl := Hd.mk hl
          have HOB := Hd.mk HOBSZ.out
          clear hl
          have m0 := (cells_cell HXm12.out 0).trans (show _ = some (Value.int .i64 x0) from rfl)
          have m1 := (cells_cell HXm12.out 1).trans (show _ = some (Value.int .i64 x1) from rfl)
          have m2 := (cells_cell HXm12.out 2).trans (show _ = some (Value.int .i64 x2) from rfl)
          have m3 := (cells_cell HXm12.out 3).trans (show _ = some (Value.int .i64 x3) from rfl)
          have m4 := (cells_cell HXm12.out 4).trans (show _ = some (Value.int .i64 (n8 x4)) from rfl)
          have m5 := (cells_cell HXm12.out 5).trans (show _ = some (Value.bool x5) from rfl)
          have t0 := (cells_cell HXt12.out 0).trans (show _ = some (Value.int .i64 nx) from rfl)
          have t1 := (cells_cell HXt12.out 1).trans (show _ = some (Value.slice (some ⟨b, off, none⟩) n0 c) from rfl)
          have HC_ := Hd.mk (refbel_any (HRA.out.below HBl12.out) HNX.out x0)
          rw [HN0.out, HLB.out, HGE.out] at HC_
          go_wp2_with fail
          refine (HC_.out).mono ?_
          rintro e w13_ ⟨lv2, rfl, hl, hB⟩
          obtain ⟨l2, c2, rfl⟩ := hl.src.shape
          clear HC_ m0 m1 m2 m3 m4 m5 t0 t1
          have HBl14 := Hd.mk (HBl12.out.trans (hB.mono HBl12.out.size))
          have HXt14 := Hd.mk ((hB.block w.heap.size (lt_heap HXt12.out)).trans HXt12.out)
          have HXm14 := Hd.mk ((hB.block Bm1 (lt_heap HXm12.out)).trans HXm12.out)
          have HXh14 := Hd.mk ((hB.block Bh5 (lt_heap HXh12.out)).trans HXh12.out)
          have HXr14 := Hd.mk ((hB.block Br9 (lt_heap HXr12.out)).trans HXr12.out)
          have HOl14 := Hd.mk (OwnE.below HOl.out hB)
          clear HBl12 HXt12 HXm12 HXh12 HXr12 HOl hB
          have HOr := Hd.mk hl
          clear hl
          have h0 := (cells_cell HXh14.out 0).trans (show _ = some (Value.int .i64 y0) from rfl)
          have h1 := (cells_cell HXh14.out 1).trans (show _ = some (Value.int .i64 y1) from rfl)
          have h2 := (cells_cell HXh14.out 2).trans (show _ = some (Value.int .i64 y2) from rfl)
          have h3 := (cells_cell HXh14.out 3).trans (show _ = some (Value.int .i64 y3) from rfl)
          have h4 := (cells_cell HXh14.out 4).trans (show _ = some (h8 y4) from rfl)
          have r0 := (cells_cell HXr14.out 0).trans (show _ = some (Value.int .i64 y0) from rfl)
          have r1 := (cells_cell HXr14.out 1).trans (show _ = some (Value.int .i64 y1) from rfl)
          have r2 := (cells_cell HXr14.out 2).trans (show _ = some (Value.int .i64 y2) from rfl)
          have r3 := (cells_cell HXr14.out 3).trans (show _ = some (Value.int .i64 y3) from rfl)
          have r4 := (cells_cell HXr14.out 4).trans (show _ = some (Value.int .i64 (n8 y4)) from rfl)
          have r5 := (cells_cell HXr14.out 5).trans (show _ = some (Value.bool false) from rfl)
          go_wp2_with fail
          refine (refis_any y0 y1 y2 y3 y4 y0 y1 y2 y3 y4 false _).mono ?_
          rintro e w15_ ⟨rfl, hB⟩
          rw [decide_eq_true rfl]
          clear h0 h1 h2 h3 h4 r0 r1 r2 r3 r4 r5
          have HBl16 := Hd.mk (HBl14.out.trans (hB.mono HBl14.out.size))
          have HXt16 := Hd.mk ((hB.block w.heap.size (lt_heap HXt14.out)).trans HXt14.out)
          have HXm16 := Hd.mk ((hB.block Bm1 (lt_heap HXm14.out)).trans HXm14.out)
          have HXh16 := Hd.mk ((hB.block Bh5 (lt_heap HXh14.out)).trans HXh14.out)
          have HXr16 := Hd.mk ((hB.block Br9 (lt_heap HXr14.out)).trans HXr14.out)
          have HOl16 := Hd.mk (OwnE.below HOl14.out hB)
          have HOr16 := Hd.mk (OwnE.below HOr.out hB)
          clear HBl14 HXt14 HXm14 HXh14 HXr14 HOl14 HOr hB
          go_wp2_with fail
          refine (same_at (l := lb) (m := lb) (b := true) (by simp) (OwnE.src HOl16.out) (OwnE.src HOr16.out)).mono ?_
          rintro e w17_ ⟨rfl, hB⟩
          have HBl18 := Hd.mk (HBl16.out.trans (hB.mono HBl16.out.size))
          have HXt18 := Hd.mk ((hB.block w.heap.size (lt_heap HXt16.out)).trans HXt16.out)
          have HXm18 := Hd.mk ((hB.block Bm1 (lt_heap HXm16.out)).trans HXm16.out)
          have HXh18 := Hd.mk ((hB.block Bh5 (lt_heap HXh16.out)).trans HXh16.out)
          have HXr18 := Hd.mk ((hB.block Br9 (lt_heap HXr16.out)).trans HXr16.out)
          have HOl18 := Hd.mk (OwnE.below HOl16.out hB)
          have HOr18 := Hd.mk (OwnE.below HOr16.out hB)
          clear HBl16 HXt16 HXm16 HXh16 HXr16 HOl16 HOr16 hB
          go_wp2_with fail
          refine (overInts_any HOl18.out (by have := HLBL.out; omega)).mono ?_
          rintro e wo ⟨rfl, hg⟩
          have HBo := Hd.mk (Below.overI HBl18.out HBl18.out.size HOl18.out HOB.out hg)
          clear hg
          have hwk := HWK.out
          go_wp2_with fail
          go_roundw
          case rel => exact ⟨k + 1, by have := HLT.out; omega, by go_num, HBo⟩
          case measure => have := HLT.out; simp [intOf]; omega
        · obtain rfl : n0 = k := by omega
          clear hlt hk
          go_upto_region 24 with fail
          go_loopw [19] (fun i W => ∃ z : Int, -1 ≤ z ∧ z ≤ 18 ∧ i = .int .i64 z ∧ Hd (Below wA.heap.size wA W)) (fun i _ => (18 - intOf i).toNat)
          case atStart => exact ⟨-1, by omega, by omega, rfl, HB⟩
          case round =>
            clear HB
            obtain ⟨z, hz0, hz1, rfl, HB⟩ := hrel
            by_cases hlt : z ≤ 17
            · have HXr := Hd.mk ((HB.out.block w.heap.size (lt_heap HXA.out)).trans HXA.out)
              have HWZ : Hd (IntKind.i64.wrap (z + 1) = z + 1) := ⟨IntWalk.i64_in _ ⟨by omega, by omega⟩⟩
              have HZ : Hd (-1 ≤ z ∧ z ≤ 17) := ⟨by omega⟩
              obtain ⟨lp, hlp⟩ : ∃ l, placesS st z = l := ⟨_, rfl⟩
              have HLP := Hd.mk hlp
              obtain ⟨np, hnp⟩ : ∃ n, lp.length = n := ⟨_, rfl⟩
              have HNP2 := Hd.mk hnp
              have HNO : Hd ((ownH st z).length = np) := ⟨by rw [← hnp, ← hlp]; unfold placesS; rw [List.length_map]⟩
              have HNPB : Hd (np ≤ 256) := ⟨by rw [← hnp, ← hlp]; exact HRA.out.ok.places z⟩
              have hz17 : z ≤ 17 := hlt
              have hz17b : decide (z ≤ 17) = true := by simp; omega
              clear hlt hz0 hz1 hlp hnp
              have t0 := (cells_cell HXr.out 0).trans (show _ = some (Value.int .i64 nx) from rfl)
              have t1 := (cells_cell HXr.out 1).trans (show _ = some (Value.slice a n0 c) from rfl)
              have HC_ := Hd.mk (places_ref (nx := nx) z (HRA.out.below HB.out).rows (Nat.le_trans HRA.out.few (by omega)))
              rw [HN0.out] at HC_
              go_wp2_with fail
              refine (HC_.out).mono ?_
              rintro e w1_ ⟨pv, rfl, hO, hB⟩
              have hO : OwnN rL w1_ _ 104 pv (ownH st z) := hO
              obtain ⟨pa, pc, rfl⟩ := hO.shape
              rw [HNO.out] at hO ⊢
              clear HC_ t0 t1 hz17 hz17b
              have HBl2 := Hd.mk (HB.out.trans (hB.mono HB.out.size))
              have HXt2 := Hd.mk ((hB.block w.heap.size (lt_heap HXr.out)).trans HXr.out)
              clear HB HXr hB
              have HNpv := Hd.mk hO
              clear hO
              go_wp2_with fail
              have HOBS := Hd.mk HBl2.out.size
              refine (tz_places (HTA.out.below HBl2.out).1 (who := z) (l := lp) HLP.out).mono ?_
              rintro e w3_ ⟨a1, c1, rfl, hO, hB⟩
              rw [HNP2.out] at hO ⊢
              have HNp4_ := Hd.mk (OwnN.below HNpv.out hB)
              clear HNpv
              have HBl4 := Hd.mk (HBl2.out.trans (hB.mono HBl2.out.size))
              have HXt4 := Hd.mk ((hB.block w.heap.size (lt_heap HXt2.out)).trans HXt2.out)
              clear HBl2 HXt2 hB
              have HOpl := Hd.mk hO
              clear hO
              go_upto_region 31 with fail
              have HB0_ := Hd.mk (Below.refl w3_.heap.size w3_)
              go_loopw [22] (fun i W => ∃ y : Int, -1 ≤ y ∧ y ≤ (np : Int) + 1 ∧ i = .int .i64 y ∧ Hd (Below w3_.heap.size w3_ W)) (fun i _ => ((np : Int) + 1 - intOf i).toNat)
              case atStart => exact ⟨-1, by omega, by omega, rfl, HB0_⟩
              case round =>
                clear HB0_
                obtain ⟨y, hy0, hy1, rfl, hBw⟩ := hrel
                have hB := hBw.out
                clear hBw
                by_cases hlt : y ≤ (np : Int)
                · have HBB := Hd.mk hB
                  have HNp41_ := Hd.mk (OwnN.below HNp4_.out hB)
                  clear HNp4_
                  have HBl41 := Hd.mk (HBl4.out.trans (hB.mono HBl4.out.size))
                  have HXt41 := Hd.mk ((hB.block w.heap.size (lt_heap HXt4.out)).trans HXt4.out)
                  have HOl41 := Hd.mk (OwnE.below HOpl.out hB)
                  clear HBl4 HXt4 HOpl hB
                  have HWY : Hd (IntKind.i64.wrap (y + 1) = y + 1) := ⟨IntWalk.i64_in _ ⟨by omega, by have := HNPB.out; omega⟩⟩
                  have HYR : Hd (-9223372036854775808 ≤ y ∧ y ≤ 9223372036854775807) := ⟨⟨by omega, by have := HNPB.out; omega⟩⟩
                  have HY : Hd (-1 ≤ y ∧ y ≤ (np : Int)) := ⟨by omega⟩
                  obtain ⟨pe, hpe⟩ : ∃ e, plcE st z y = e := ⟨_, rfl⟩
                  obtain ⟨⟨p0, p1, p2, p3, p4⟩, hpv⟩ : ∃ e, plcV st z y = e := ⟨_, rfl⟩
                  have HPE := Hd.mk hpe
                  have HPV := Hd.mk hpv
                  have hyb : decide (y ≤ (np : Int)) = true := by simp; omega
                  clear hy0 hy1 hpe hpv
                  go_wp2_with fail
                  refine (y_place (HTA.out.below HBl41.out).1 (who := z) (i := y) (a := p0) (b := p1) (c := p2) (d := p3) (r := p4) (e := pe) HPV.out HPE.out).mono ?_
                  rintro e w42_ ⟨rfl, hB⟩
                  clear hlt hyb
                  have HNp43_ := Hd.mk (OwnN.below HNp41_.out hB)
                  clear HNp41_
                  have HBB43 := Hd.mk (HBB.out.trans (hB.mono HBB.out.size))
                  clear HBB
                  have HBl43 := Hd.mk (HBl41.out.trans (hB.mono HBl41.out.size))
                  have HXt43 := Hd.mk ((hB.block w.heap.size (lt_heap HXt41.out)).trans HXt41.out)
                  have HOl43 := Hd.mk (OwnE.below HOl41.out hB)
                  clear HBl41 HXt41 HOl41 hB
                  go_upto_region 34 with fail
                  obtain ⟨V44, hV⟩ : ∃ W, (w42_.alloc (.cells #[.int .i64 p0, .int .i64 p1, .int .i64 p2, .int .i64 p3, h8 p4] 34)) = W := ⟨_, rfl⟩
                  have hbx : V44.heap[w42_.heap.size]? = some (.cells #[.int .i64 p0, .int .i64 p1, .int .i64 p2, .int .i64 p3, h8 p4] 34 (0, 0)) := by rw [← hV]; exact heap_alloc_new _ _
                  have hB : Below w42_.heap.size w42_ V44 := by rw [← hV]; exact (Below.refl _ _).alloc (Nat.le_refl _) _
                  rw [hV]
                  clear hV
                  obtain ⟨Bh44, hX⟩ : ∃ X, w42_.heap.size = X := ⟨_, rfl⟩
                  have HNp45_ := Hd.mk (OwnN.below HNp43_.out hB)
                  clear HNp43_
                  have HBB45 := Hd.mk (HBB43.out.trans (hB.mono HBB43.out.size))
                  clear HBB43
                  have HBl45 := Hd.mk (HBl43.out.trans (hB.mono HBl43.out.size))
                  have HXt45 := Hd.mk ((hB.block w.heap.size (lt_heap HXt43.out)).trans HXt43.out)
                  have HOl45 := Hd.mk (OwnE.below HOl43.out hB)
                  clear HBl43 HXt43 HOl43 hB
                  rw [hX] at hbx ⊢
                  have HXh45 := Hd.mk hbx
                  clear hX hbx
                  have t0 := (cells_cell HXt45.out 0).trans (show _ = some (Value.int .i64 nx) from rfl)
                  have t1 := (cells_cell HXt45.out 1).trans (show _ = some (Value.slice a n0 c) from rfl)
                  have HC_ := Hd.mk (refplace_at (who := z) (i := y) (HRA.out.below HBl45.out) HNX.out HYR.out HPV.out HPE.out)
                  rw [HN0.out] at HC_
                  go_wp2_with fail
                  refine (HC_.out).mono ?_
                  rintro e w46_ ⟨rfl, hB⟩
                  clear HC_ t0 t1
                  have HNp47_ := Hd.mk (OwnN.below HNp45_.out hB)
                  clear HNp45_
                  have HBB47 := Hd.mk (HBB45.out.trans (hB.mono HBB45.out.size))
                  clear HBB45
                  have HBl47 := Hd.mk (HBl45.out.trans (hB.mono HBl45.out.size))
                  have HXt47 := Hd.mk ((hB.block w.heap.size (lt_heap HXt45.out)).trans HXt45.out)
                  have HXh47 := Hd.mk ((hB.block Bh44 (lt_heap HXh45.out)).trans HXh45.out)
                  have HOl47 := Hd.mk (OwnE.below HOl45.out hB)
                  clear HBl45 HXt45 HXh45 HOl45 hB
                  go_upto_region 35 with fail
                  obtain ⟨V48, hV⟩ : ∃ W, (w46_.alloc (.cells #[.int .i64 p0, .int .i64 p1, .int .i64 p2, .int .i64 p3, .int .i64 (n8 p4), .bool false] 104)) = W := ⟨_, rfl⟩
                  have hbx : V48.heap[w46_.heap.size]? = some (.cells #[.int .i64 p0, .int .i64 p1, .int .i64 p2, .int .i64 p3, .int .i64 (n8 p4), .bool false] 104 (0, 0)) := by rw [← hV]; exact heap_alloc_new _ _
                  have hB : Below w46_.heap.size w46_ V48 := by rw [← hV]; exact (Below.refl _ _).alloc (Nat.le_refl _) _
                  rw [hV]
                  clear hV
                  obtain ⟨Br48, hX⟩ : ∃ X, w46_.heap.size = X := ⟨_, rfl⟩
                  have HNp49_ := Hd.mk (OwnN.below HNp47_.out hB)
                  clear HNp47_
                  have HBB49 := Hd.mk (HBB47.out.trans (hB.mono HBB47.out.size))
                  clear HBB47
                  have HBl49 := Hd.mk (HBl47.out.trans (hB.mono HBl47.out.size))
                  have HXt49 := Hd.mk ((hB.block w.heap.size (lt_heap HXt47.out)).trans HXt47.out)
                  have HXh49 := Hd.mk ((hB.block Bh44 (lt_heap HXh47.out)).trans HXh47.out)
                  have HOl49 := Hd.mk (OwnE.below HOl47.out hB)
                  clear HBl47 HXt47 HXh47 HOl47 hB
                  rw [hX] at hbx ⊢
                  have HXr49 := Hd.mk hbx
                  clear hX hbx
                  obtain ⟨hy0, hy1⟩ := HY.out
                  have hyc : y = -1 ∨ (0 ≤ y ∧ y < (np : Int)) ∨ y = (np : Int) := by omega
                  rcases hyc with hyc | hyc | hyc
                  · have d1 : decide (0 ≤ y) = false := by simp; omega
                    clear hyc hy0 hy1
                    have hS0 : Below V48.heap.size V48 V48.drew ∧ V48.drew.cell? ⟨Bh44, 0, none⟩ = some (Value.int .i64 p0) ∧ V48.drew.cell? ⟨Bh44, 1, none⟩ = some (Value.int .i64 p1) ∧ V48.drew.cell? ⟨Bh44, 2, none⟩ = some (Value.int .i64 p2) ∧ V48.drew.cell? ⟨Bh44, 3, none⟩ = some (Value.int .i64 p3) ∧ V48.drew.cell? ⟨Bh44, 4, none⟩ = some (h8 p4) ∧ V48.drew.cell? ⟨Br48, 0, none⟩ = some (Value.int .i64 p0) ∧ V48.drew.cell? ⟨Br48, 1, none⟩ = some (Value.int .i64 p1) ∧ V48.drew.cell? ⟨Br48, 2, none⟩ = some (Value.int .i64 p2) ∧ V48.drew.cell? ⟨Br48, 3, none⟩ = some (Value.int .i64 p3) ∧ V48.drew.cell? ⟨Br48, 4, none⟩ = some (Value.int .i64 (n8 p4)) ∧ V48.drew.cell? ⟨Br48, 5, none⟩ = some (Value.bool false) := ⟨(Below.refl _ _).drew, (cells_cell HXh49.out 0).trans rfl, (cells_cell HXh49.out 1).trans rfl, (cells_cell HXh49.out 2).trans rfl, (cells_cell HXh49.out 3).trans rfl, (cells_cell HXh49.out 4).trans rfl, (cells_cell HXr49.out 0).trans rfl, (cells_cell HXr49.out 1).trans rfl, (cells_cell HXr49.out 2).trans rfl, (cells_cell HXr49.out 3).trans rfl, (cells_cell HXr49.out 4).trans rfl, (cells_cell HXr49.out 5).trans rfl⟩
                    refine wp_region_held_drew (S := fun W => Below V48.heap.size V48 W ∧ W.cell? ⟨Bh44, 0, none⟩ = some (Value.int .i64 p0) ∧ W.cell? ⟨Bh44, 1, none⟩ = some (Value.int .i64 p1) ∧ W.cell? ⟨Bh44, 2, none⟩ = some (Value.int .i64 p2) ∧ W.cell? ⟨Bh44, 3, none⟩ = some (Value.int .i64 p3) ∧ W.cell? ⟨Bh44, 4, none⟩ = some (h8 p4) ∧ W.cell? ⟨Br48, 0, none⟩ = some (Value.int .i64 p0) ∧ W.cell? ⟨Br48, 1, none⟩ = some (Value.int .i64 p1) ∧ W.cell? ⟨Br48, 2, none⟩ = some (Value.int .i64 p2) ∧ W.cell? ⟨Br48, 3, none⟩ = some (Value.int .i64 p3) ∧ W.cell? ⟨Br48, 4, none⟩ = some (Value.int .i64 (n8 p4)) ∧ W.cell? ⟨Br48, 5, none⟩ = some (Value.bool false)) (by kernel_rfl) (hS0) (fun hS_ => ?_)
                    try dsimp only at hS_
                    refine takeW 0 ?_ rfl (by kernel_rfl) (by kernel_rfl) (by kernel_rfl) (fun _ _ _ h => h) (by rfl) ?_ hS_ ?_
                    rotate_left
                    · intro w hSw
                      try dsimp only at hSw
                      go_simp
                      with_reducible rfl
                    try simp only [Act.put, List.setIfInBounds_toArray, List.set_cons_zero, List.set_cons_succ]
                    refine takeW 1 ?_ rfl (by kernel_rfl) (by kernel_rfl) (by kernel_rfl) (fun _ _ _ h => h) (by rfl) ?_ hS_ ?_
                    rotate_left
                    · intro w hSw
                      try dsimp only at hSw
                      go_simp
                      with_reducible rfl
                    try simp only [Act.put, List.setIfInBounds_toArray, List.set_cons_zero, List.set_cons_succ]
                    refine wpAnyH_ready (rs := [2]) (by kernel_rfl) (by simp) (readyL rfl (fun K hK => ?_) AllReadyH.nil)
                    go_simp
                    refine (refis_any p0 p1 p2 p3 p4 p0 p1 p2 p3 p4 false _).mono ?_
                    rintro e wk ⟨rfl, hBk⟩
                    rw [decide_eq_true rfl]
                    have hS2_ : Below V48.heap.size V48 wk ∧ wk.cell? ⟨Bh44, 0, none⟩ = some (Value.int .i64 p0) ∧ wk.cell? ⟨Bh44, 1, none⟩ = some (Value.int .i64 p1) ∧ wk.cell? ⟨Bh44, 2, none⟩ = some (Value.int .i64 p2) ∧ wk.cell? ⟨Bh44, 3, none⟩ = some (Value.int .i64 p3) ∧ wk.cell? ⟨Bh44, 4, none⟩ = some (h8 p4) ∧ wk.cell? ⟨Br48, 0, none⟩ = some (Value.int .i64 p0) ∧ wk.cell? ⟨Br48, 1, none⟩ = some (Value.int .i64 p1) ∧ wk.cell? ⟨Br48, 2, none⟩ = some (Value.int .i64 p2) ∧ wk.cell? ⟨Br48, 3, none⟩ = some (Value.int .i64 p3) ∧ wk.cell? ⟨Br48, 4, none⟩ = some (Value.int .i64 (n8 p4)) ∧ wk.cell? ⟨Br48, 5, none⟩ = some (Value.bool false) := ⟨hS_.1.trans (hBk.mono hS_.1.size), cell_keep hS_.2.1 hBk, cell_keep hS_.2.2.1 hBk, cell_keep hS_.2.2.2.1 hBk, cell_keep hS_.2.2.2.2.1 hBk, cell_keep hS_.2.2.2.2.2.1 hBk, cell_keep hS_.2.2.2.2.2.2.1 hBk, cell_keep hS_.2.2.2.2.2.2.2.1 hBk, cell_keep hS_.2.2.2.2.2.2.2.2.1 hBk, cell_keep hS_.2.2.2.2.2.2.2.2.2.1 hBk, cell_keep hS_.2.2.2.2.2.2.2.2.2.2.1 hBk, cell_keep hS_.2.2.2.2.2.2.2.2.2.2.2 hBk⟩
                    refine hK.out _ _ hS2_ (fun _ => ?_)
                    clear hK K hS_
                    have hS_ := hS2_
                    clear hS2_
                    try simp only [Act.put, List.setIfInBounds_toArray, List.set_cons_zero, List.set_cons_succ]
                    refine takeW 3 ?_ rfl (by kernel_rfl) (by kernel_rfl) (by kernel_rfl) (fun _ _ _ h => h) (by rfl) ?_ hS_ ?_
                    rotate_left
                    · intro w hSw
                      try dsimp only at hSw
                      go_simp
                      with_reducible rfl
                    try simp only [Act.put, List.setIfInBounds_toArray, List.set_cons_zero, List.set_cons_succ]
                    refine takeW 4 ?_ rfl (by kernel_rfl) (by kernel_rfl) (by kernel_rfl) (fun _ _ _ h => h) (by rfl) ?_ hS_ ?_
                    rotate_left
                    · intro w hSw
                      try dsimp only at hSw
                      go_simp
                      with_reducible rfl
                    try simp only [Act.put, List.setIfInBounds_toArray, List.set_cons_zero, List.set_cons_succ]
                    refine takeW 5 ?_ rfl (by kernel_rfl) (by kernel_rfl) (by kernel_rfl) (fun _ _ _ h => h) (by rfl) ?_ hS_ ?_
                    rotate_left
                    · intro w hSw
                      try dsimp only at hSw
                      go_simp
                      with_reducible rfl
                    try simp only [Act.put, List.setIfInBounds_toArray, List.set_cons_zero, List.set_cons_succ]
                    refine takeW 6 ?_ rfl (by kernel_rfl) (by kernel_rfl) (by kernel_rfl) (fun _ _ _ h => h) (by rfl) ?_ hS_ ?_
                    rotate_left
                    · intro w hSw
                      try dsimp only at hSw
                      go_simp
                      with_reducible rfl
                    try simp only [Act.put, List.setIfInBounds_toArray, List.set_cons_zero, List.set_cons_succ]
                    refine takeW 7 ?_ rfl (by kernel_rfl) (by kernel_rfl) (by kernel_rfl) (fun _ _ _ h => h) (by rfl) ?_ hS_ ?_
                    rotate_left
                    · intro w hSw
                      try dsimp only at hSw
                      go_simp
                      with_reducible rfl
                    try simp only [Act.put, List.setIfInBounds_toArray, List.set_cons_zero, List.set_cons_succ]
                    refine takeW 8 ?_ rfl (by kernel_rfl) (by kernel_rfl) (by kernel_rfl) (fun _ _ _ h => h) (by rfl) ?_ hS_ ?_
                    rotate_left
                    · intro w hSw
                      try dsimp only at hSw
                      go_simp
                      with_reducible rfl
                    try simp only [Act.put, List.setIfInBounds_toArray, List.set_cons_zero, List.set_cons_succ]
                    refine takeW 9 ?_ rfl (by kernel_rfl) (by kernel_rfl) (by kernel_rfl) (fun _ _ _ h => h) (by rfl) ?_ hS_ ?_
                    rotate_left
                    · intro w hSw
                      try dsimp only at hSw
                      go_simp
                      with_reducible rfl
                    try simp only [Act.put, List.setIfInBounds_toArray, List.set_cons_zero, List.set_cons_succ]
                    refine takeW 10 ?_ rfl (by kernel_rfl) (by kernel_rfl) (by kernel_rfl) (fun _ _ _ h => h) (by rfl) ?_ hS_ ?_
                    rotate_left
                    · intro w hSw
                      try dsimp only at hSw
                      go_simp
                      with_reducible rfl
                    try simp only [Act.put, List.setIfInBounds_toArray, List.set_cons_zero, List.set_cons_succ]
                    refine takeW 11 ?_ rfl (by kernel_rfl) (by kernel_rfl) (by kernel_rfl) (fun _ _ _ h => h) (by rfl) ?_ hS_ ?_
                    rotate_left
                    · intro w hSw
                      try dsimp only at hSw
                      go_simp
                      with_reducible rfl
                    try simp only [Act.put, List.setIfInBounds_toArray, List.set_cons_zero, List.set_cons_succ]
                    refine takeW 12 ?_ rfl (by kernel_rfl) (by kernel_rfl) (by kernel_rfl) (fun _ _ _ h => h) (by rfl) ?_ hS_ ?_
                    rotate_left
                    · intro w hSw
                      try dsimp only at hSw
                      go_simp
                      with_reducible rfl
                    try simp only [Act.put, List.setIfInBounds_toArray, List.set_cons_zero, List.set_cons_succ]
                    refine takeN 13 rfl (by kernel_rfl) (by kernel_rfl) (by kernel_rfl) (fun _ _ _ h => h) (by rfl) hS_ ?_
                    try simp only [Act.put, List.setIfInBounds_toArray, List.set_cons_zero, List.set_cons_succ]
                    refine takeN 14 rfl (by kernel_rfl) (by kernel_rfl) (by kernel_rfl) (fun _ _ _ h => h) (by rfl) hS_ ?_
                    try simp only [Act.put, List.setIfInBounds_toArray, List.set_cons_zero, List.set_cons_succ]
                    refine takeN 15 rfl (by kernel_rfl) (by kernel_rfl) (by kernel_rfl) (fun _ _ _ h => h) (by rfl) hS_ ?_
                    try simp only [Act.put, List.setIfInBounds_toArray, List.set_cons_zero, List.set_cons_succ]
                    refine takeN 16 rfl (by kernel_rfl) (by kernel_rfl) (by kernel_rfl) (fun _ _ _ h => h) (by rfl) hS_ ?_
                    try simp only [Act.put, List.setIfInBounds_toArray, List.set_cons_zero, List.set_cons_succ]
                    refine takeW 17 ?_ rfl (by kernel_rfl) (by kernel_rfl) (by kernel_rfl) (fun _ _ _ h => h) (by rfl) ?_ hS_ ?_
                    rotate_left
                    · intro w hSw
                      try dsimp only at hSw
                      go_simp
                      with_reducible rfl
                    try simp only [Act.put, List.setIfInBounds_toArray, List.set_cons_zero, List.set_cons_succ]
                    refine takeW 18 ?_ rfl (by kernel_rfl) (by kernel_rfl) (by kernel_rfl) (fun _ _ _ h => h) (by rfl) ?_ hS_ ?_
                    rotate_left
                    · intro w hSw
                      try dsimp only at hSw
                      go_simp
                      with_reducible rfl
                    try simp only [Act.put, List.setIfInBounds_toArray, List.set_cons_zero, List.set_cons_succ]
                    refine takeN 19 rfl (by kernel_rfl) (by kernel_rfl) (by kernel_rfl) (fun _ _ _ h => h) (by rfl) hS_ ?_
                    try simp only [Act.put, List.setIfInBounds_toArray, List.set_cons_zero, List.set_cons_succ]
                    refine takeN 20 rfl (by kernel_rfl) (by kernel_rfl) (by kernel_rfl) (fun _ _ _ h => h) (by rfl) hS_ ?_
                    try simp only [Act.put, List.setIfInBounds_toArray, List.set_cons_zero, List.set_cons_succ]
                    refine takeN 21 rfl (by kernel_rfl) (by kernel_rfl) (by kernel_rfl) (fun _ _ _ h => h) (by rfl) hS_ ?_
                    try simp only [Act.put, List.setIfInBounds_toArray, List.set_cons_zero, List.set_cons_succ]
                    refine takeN 22 rfl (by kernel_rfl) (by kernel_rfl) (by kernel_rfl) (fun _ _ _ h => h) (by rfl) hS_ ?_
                    try simp only [Act.put, List.setIfInBounds_toArray, List.set_cons_zero, List.set_cons_succ]
                    refine takeN 23 rfl (by kernel_rfl) (by kernel_rfl) (by kernel_rfl) (fun _ _ _ h => h) (by rfl) hS_ ?_
                    try simp only [Act.put, List.setIfInBounds_toArray, List.set_cons_zero, List.set_cons_succ]
                    refine takeN 24 rfl (by kernel_rfl) (by kernel_rfl) (by kernel_rfl) (fun _ _ _ h => h) (by rfl) hS_ ?_
                    try simp only [Act.put, List.setIfInBounds_toArray, List.set_cons_zero, List.set_cons_succ]
                    refine takeN 25 rfl (by kernel_rfl) (by kernel_rfl) (by kernel_rfl) (fun _ _ _ h => h) (by rfl) hS_ ?_
                    try simp only [Act.put, List.setIfInBounds_toArray, List.set_cons_zero, List.set_cons_succ]
                    refine takeN 26 rfl (by kernel_rfl) (by kernel_rfl) (by kernel_rfl) (fun _ _ _ h => h) (by rfl) hS_ ?_
                    try simp only [Act.put, List.setIfInBounds_toArray, List.set_cons_zero, List.set_cons_succ]
                    refine takeN 27 rfl (by kernel_rfl) (by kernel_rfl) (by kernel_rfl) (fun _ _ _ h => h) (by rfl) hS_ ?_
                    try simp only [Act.put, List.setIfInBounds_toArray, List.set_cons_zero, List.set_cons_succ]
                    refine takeN 28 rfl (by kernel_rfl) (by kernel_rfl) (by kernel_rfl) (fun _ _ _ h => h) (by rfl) hS_ ?_
                    try simp only [Act.put, List.setIfInBounds_toArray, List.set_cons_zero, List.set_cons_succ]
                    refine takeW 29 ?_ rfl (by kernel_rfl) (by kernel_rfl) (by kernel_rfl) (fun _ _ _ h => h) (by rfl) ?_ hS_ ?_
                    rotate_left
                    · intro w hSw
                      try dsimp only at hSw
                      go_simp
                      with_reducible rfl
                    try simp only [Act.put, List.setIfInBounds_toArray, List.set_cons_zero, List.set_cons_succ]
                    refine takeW 30 ?_ rfl (by kernel_rfl) (by kernel_rfl) (by kernel_rfl) (fun _ _ _ h => h) (by rfl) ?_ hS_ ?_
                    rotate_left
                    · intro w hSw
                      try dsimp only at hSw
                      go_simp
                      with_reducible rfl
                    try simp only [Act.put, List.setIfInBounds_toArray, List.set_cons_zero, List.set_cons_succ]
                    refine wpAnyH_done (by kernel_rfl) ?_ _
                    clear hS0
                    obtain ⟨hbk, -⟩ := hS_
                    have HBf : Hd (Below w3_.heap.size w3_ wk) := ⟨HBB49.out.trans (hbk.mono HBB49.out.size)⟩
                    have hwy := HWY.out
                    clear hbk
                    go_wp2_with fail
                    go_roundw
                    case rel => exact ⟨y + 1, by have := HY.out; omega, by have := HY.out; omega, rfl, HBf⟩
                    case measure => have := HY.out; simp [intOf]; omega
                  · obtain ⟨kk, rfl⟩ : ∃ k : Nat, y = (k : Int) := ⟨y.toNat, by omega⟩
                    have hkk : kk < np := by omega
                    have d1 : decide (0 ≤ (kk : Int)) = true := by simp
                    have d2 : decide ((kk : Int) < (np : Int)) = true := by simp; omega
                    have k0 : (0 : Int) ≤ (kk : Int) := by omega
                    have k1 : (kk : Int) < (np : Int) := by omega
                    have hko : kk < (ownH st z).length := by rw [HNO.out]; exact hkk
                    have hkp : kk < lp.length := by rw [HNP2.out]; exact hkk
                    obtain ⟨b1, o1, hbe1, _, hc1⟩ := (OwnE.src HOl49.out).at kk hkp
                    obtain ⟨b2, o2, hbe2, _, hc2⟩ := (OwnN.src HNp49_.out).at kk hko
                    cases hbe1
                    cases hbe2
                    have hse : lp[kk] = (ownH st z)[kk].1.ser := by
                      have e : lp[kk]? = (placesS st z)[kk]? := by rw [HLP.out]
                      rw [List.getElem?_eq_getElem hkp] at e
                      unfold placesS at e
                      rw [List.getElem?_map, List.getElem?_eq_getElem hko] at e
                      simpa using e
                    obtain ⟨sv, hsv⟩ : ∃ s, lp[kk] = s := ⟨_, rfl⟩
                    have hc2' := hc2 0 (.int .i64 sv) (by rw [← hsv, hse]; rfl)
                    rw [hsv] at hc1
                    have w1 : V48.cell? ⟨b1, o1 + kk, none⟩ = some (.int .i64 sv) := hc1
                    have w2 : V48.cell? ⟨b2, o2 + kk * 6, none⟩ = some (.int .i64 sv) := hc2'
                    clear hyc hy0 hy1 hkk hko hkp hc1 hc2 hc2' hse hsv
                    have hS0 : Below V48.heap.size V48 V48.drew ∧ V48.drew.cell? ⟨Bh44, 0, none⟩ = some (Value.int .i64 p0) ∧ V48.drew.cell? ⟨Bh44, 1, none⟩ = some (Value.int .i64 p1) ∧ V48.drew.cell? ⟨Bh44, 2, none⟩ = some (Value.int .i64 p2) ∧ V48.drew.cell? ⟨Bh44, 3, none⟩ = some (Value.int .i64 p3) ∧ V48.drew.cell? ⟨Bh44, 4, none⟩ = some (h8 p4) ∧ V48.drew.cell? ⟨Br48, 0, none⟩ = some (Value.int .i64 p0) ∧ V48.drew.cell? ⟨Br48, 1, none⟩ = some (Value.int .i64 p1) ∧ V48.drew.cell? ⟨Br48, 2, none⟩ = some (Value.int .i64 p2) ∧ V48.drew.cell? ⟨Br48, 3, none⟩ = some (Value.int .i64 p3) ∧ V48.drew.cell? ⟨Br48, 4, none⟩ = some (Value.int .i64 (n8 p4)) ∧ V48.drew.cell? ⟨Br48, 5, none⟩ = some (Value.bool false) ∧ V48.drew.cell? ⟨b1, o1 + kk, none⟩ = some (.int .i64 sv) ∧ V48.drew.cell? ⟨b2, o2 + kk * 6, none⟩ = some (.int .i64 sv) := ⟨(Below.refl _ _).drew, (cells_cell HXh49.out 0).trans rfl, (cells_cell HXh49.out 1).trans rfl, (cells_cell HXh49.out 2).trans rfl, (cells_cell HXh49.out 3).trans rfl, (cells_cell HXh49.out 4).trans rfl, (cells_cell HXr49.out 0).trans rfl, (cells_cell HXr49.out 1).trans rfl, (cells_cell HXr49.out 2).trans rfl, (cells_cell HXr49.out 3).trans rfl, (cells_cell HXr49.out 4).trans rfl, (cells_cell HXr49.out 5).trans rfl, w1, w2⟩
                    clear w1 w2
                    refine wp_region_held_drew (S := fun W => Below V48.heap.size V48 W ∧ W.cell? ⟨Bh44, 0, none⟩ = some (Value.int .i64 p0) ∧ W.cell? ⟨Bh44, 1, none⟩ = some (Value.int .i64 p1) ∧ W.cell? ⟨Bh44, 2, none⟩ = some (Value.int .i64 p2) ∧ W.cell? ⟨Bh44, 3, none⟩ = some (Value.int .i64 p3) ∧ W.cell? ⟨Bh44, 4, none⟩ = some (h8 p4) ∧ W.cell? ⟨Br48, 0, none⟩ = some (Value.int .i64 p0) ∧ W.cell? ⟨Br48, 1, none⟩ = some (Value.int .i64 p1) ∧ W.cell? ⟨Br48, 2, none⟩ = some (Value.int .i64 p2) ∧ W.cell? ⟨Br48, 3, none⟩ = some (Value.int .i64 p3) ∧ W.cell? ⟨Br48, 4, none⟩ = some (Value.int .i64 (n8 p4)) ∧ W.cell? ⟨Br48, 5, none⟩ = some (Value.bool false) ∧ W.cell? ⟨b1, o1 + kk, none⟩ = some (.int .i64 sv) ∧ W.cell? ⟨b2, o2 + kk * 6, none⟩ = some (.int .i64 sv)) (by kernel_rfl) (hS0) (fun hS_ => ?_)
                    try dsimp only at hS_
                    refine takeW 0 ?_ rfl (by kernel_rfl) (by kernel_rfl) (by kernel_rfl) (fun _ _ _ h => h) (by rfl) ?_ hS_ ?_
                    rotate_left
                    · intro w hSw
                      try dsimp only at hSw
                      go_simp
                      with_reducible rfl
                    try simp only [Act.put, List.setIfInBounds_toArray, List.set_cons_zero, List.set_cons_succ]
                    refine takeW 1 ?_ rfl (by kernel_rfl) (by kernel_rfl) (by kernel_rfl) (fun _ _ _ h => h) (by rfl) ?_ hS_ ?_
                    rotate_left
                    · intro w hSw
                      try dsimp only at hSw
                      go_simp
                      with_reducible rfl
                    try simp only [Act.put, List.setIfInBounds_toArray, List.set_cons_zero, List.set_cons_succ]
                    refine wpAnyH_ready (rs := [2]) (by kernel_rfl) (by simp) (readyL rfl (fun K hK => ?_) AllReadyH.nil)
                    go_simp
                    refine (refis_any p0 p1 p2 p3 p4 p0 p1 p2 p3 p4 false _).mono ?_
                    rintro e wk ⟨rfl, hBk⟩
                    rw [decide_eq_true rfl]
                    have hS2_ : Below V48.heap.size V48 wk ∧ wk.cell? ⟨Bh44, 0, none⟩ = some (Value.int .i64 p0) ∧ wk.cell? ⟨Bh44, 1, none⟩ = some (Value.int .i64 p1) ∧ wk.cell? ⟨Bh44, 2, none⟩ = some (Value.int .i64 p2) ∧ wk.cell? ⟨Bh44, 3, none⟩ = some (Value.int .i64 p3) ∧ wk.cell? ⟨Bh44, 4, none⟩ = some (h8 p4) ∧ wk.cell? ⟨Br48, 0, none⟩ = some (Value.int .i64 p0) ∧ wk.cell? ⟨Br48, 1, none⟩ = some (Value.int .i64 p1) ∧ wk.cell? ⟨Br48, 2, none⟩ = some (Value.int .i64 p2) ∧ wk.cell? ⟨Br48, 3, none⟩ = some (Value.int .i64 p3) ∧ wk.cell? ⟨Br48, 4, none⟩ = some (Value.int .i64 (n8 p4)) ∧ wk.cell? ⟨Br48, 5, none⟩ = some (Value.bool false) ∧ wk.cell? ⟨b1, o1 + kk, none⟩ = some (.int .i64 sv) ∧ wk.cell? ⟨b2, o2 + kk * 6, none⟩ = some (.int .i64 sv) := ⟨hS_.1.trans (hBk.mono hS_.1.size), cell_keep hS_.2.1 hBk, cell_keep hS_.2.2.1 hBk, cell_keep hS_.2.2.2.1 hBk, cell_keep hS_.2.2.2.2.1 hBk, cell_keep hS_.2.2.2.2.2.1 hBk, cell_keep hS_.2.2.2.2.2.2.1 hBk, cell_keep hS_.2.2.2.2.2.2.2.1 hBk, cell_keep hS_.2.2.2.2.2.2.2.2.1 hBk, cell_keep hS_.2.2.2.2.2.2.2.2.2.1 hBk, cell_keep hS_.2.2.2.2.2.2.2.2.2.2.1 hBk, cell_keep hS_.2.2.2.2.2.2.2.2.2.2.2.1 hBk, cell_keep hS_.2.2.2.2.2.2.2.2.2.2.2.2.1 hBk, cell_keep hS_.2.2.2.2.2.2.2.2.2.2.2.2.2 hBk⟩
                    refine hK.out _ _ hS2_ (fun _ => ?_)
                    clear hK K hS_
                    have hS_ := hS2_
                    clear hS2_
                    try simp only [Act.put, List.setIfInBounds_toArray, List.set_cons_zero, List.set_cons_succ]
                    refine takeW 3 ?_ rfl (by kernel_rfl) (by kernel_rfl) (by kernel_rfl) (fun _ _ _ h => h) (by rfl) ?_ hS_ ?_
                    rotate_left
                    · intro w hSw
                      try dsimp only at hSw
                      go_simp
                      with_reducible rfl
                    try simp only [Act.put, List.setIfInBounds_toArray, List.set_cons_zero, List.set_cons_succ]
                    refine takeW 4 ?_ rfl (by kernel_rfl) (by kernel_rfl) (by kernel_rfl) (fun _ _ _ h => h) (by rfl) ?_ hS_ ?_
                    rotate_left
                    · intro w hSw
                      try dsimp only at hSw
                      go_simp
                      with_reducible rfl
                    try simp only [Act.put, List.setIfInBounds_toArray, List.set_cons_zero, List.set_cons_succ]
                    refine takeW 5 ?_ rfl (by kernel_rfl) (by kernel_rfl) (by kernel_rfl) (fun _ _ _ h => h) (by rfl) ?_ hS_ ?_
                    rotate_left
                    · intro w hSw
                      try dsimp only at hSw
                      go_simp
                      with_reducible rfl
                    try simp only [Act.put, List.setIfInBounds_toArray, List.set_cons_zero, List.set_cons_succ]
                    refine takeW 6 ?_ rfl (by kernel_rfl) (by kernel_rfl) (by kernel_rfl) (fun _ _ _ h => h) (by rfl) ?_ hS_ ?_
                    rotate_left
                    · intro w hSw
                      try dsimp only at hSw
                      go_simp
                      with_reducible rfl
                    try simp only [Act.put, List.setIfInBounds_toArray, List.set_cons_zero, List.set_cons_succ]
                    refine takeW 7 ?_ rfl (by kernel_rfl) (by kernel_rfl) (by kernel_rfl) (fun _ _ _ h => h) (by rfl) ?_ hS_ ?_
                    rotate_left
                    · intro w hSw
                      try dsimp only at hSw
                      go_simp
                      with_reducible rfl
                    try simp only [Act.put, List.setIfInBounds_toArray, List.set_cons_zero, List.set_cons_succ]
                    refine takeW 8 ?_ rfl (by kernel_rfl) (by kernel_rfl) (by kernel_rfl) (fun _ _ _ h => h) (by rfl) ?_ hS_ ?_
                    rotate_left
                    · intro w hSw
                      try dsimp only at hSw
                      go_simp
                      with_reducible rfl
                    try simp only [Act.put, List.setIfInBounds_toArray, List.set_cons_zero, List.set_cons_succ]
                    refine takeW 9 ?_ rfl (by kernel_rfl) (by kernel_rfl) (by kernel_rfl) (fun _ _ _ h => h) (by rfl) ?_ hS_ ?_
                    rotate_left
                    · intro w hSw
                      try dsimp only at hSw
                      go_simp
                      with_reducible rfl
                    try simp only [Act.put, List.setIfInBounds_toArray, List.set_cons_zero, List.set_cons_succ]
                    refine takeW 10 ?_ rfl (by kernel_rfl) (by kernel_rfl) (by kernel_rfl) (fun _ _ _ h => h) (by rfl) ?_ hS_ ?_
                    rotate_left
                    · intro w hSw
                      try dsimp only at hSw
                      go_simp
                      with_reducible rfl
                    try simp only [Act.put, List.setIfInBounds_toArray, List.set_cons_zero, List.set_cons_succ]
                    refine takeW 11 ?_ rfl (by kernel_rfl) (by kernel_rfl) (by kernel_rfl) (fun _ _ _ h => h) (by rfl) ?_ hS_ ?_
                    rotate_left
                    · intro w hSw
                      try dsimp only at hSw
                      go_simp
                      with_reducible rfl
                    try simp only [Act.put, List.setIfInBounds_toArray, List.set_cons_zero, List.set_cons_succ]
                    refine takeW 12 ?_ rfl (by kernel_rfl) (by kernel_rfl) (by kernel_rfl) (fun _ _ _ h => h) (by rfl) ?_ hS_ ?_
                    rotate_left
                    · intro w hSw
                      try dsimp only at hSw
                      go_simp
                      with_reducible rfl
                    try simp only [Act.put, List.setIfInBounds_toArray, List.set_cons_zero, List.set_cons_succ]
                    refine takeW 13 ?_ rfl (by kernel_rfl) (by kernel_rfl) (by kernel_rfl) (fun _ _ _ h => h) (by rfl) ?_ hS_ ?_
                    rotate_left
                    · intro w hSw
                      try dsimp only at hSw
                      go_simp
                      with_reducible rfl
                    try simp only [Act.put, List.setIfInBounds_toArray, List.set_cons_zero, List.set_cons_succ]
                    refine takeW 14 ?_ rfl (by kernel_rfl) (by kernel_rfl) (by kernel_rfl) (fun _ _ _ h => h) (by rfl) ?_ hS_ ?_
                    rotate_left
                    · intro w hSw
                      try dsimp only at hSw
                      go_simp
                      with_reducible rfl
                    try simp only [Act.put, List.setIfInBounds_toArray, List.set_cons_zero, List.set_cons_succ]
                    refine takeW 15 ?_ rfl (by kernel_rfl) (by kernel_rfl) (by kernel_rfl) (fun _ _ _ h => h) (by rfl) ?_ hS_ ?_
                    rotate_left
                    · intro w hSw
                      try dsimp only at hSw
                      go_simp
                      with_reducible rfl
                    try simp only [Act.put, List.setIfInBounds_toArray, List.set_cons_zero, List.set_cons_succ]
                    refine takeW 16 ?_ rfl (by kernel_rfl) (by kernel_rfl) (by kernel_rfl) (fun _ _ _ h => h) (by rfl) ?_ hS_ ?_
                    rotate_left
                    · intro w hSw
                      try dsimp only at hSw
                      go_simp
                      with_reducible rfl
                    try simp only [Act.put, List.setIfInBounds_toArray, List.set_cons_zero, List.set_cons_succ]
                    refine takeW 17 ?_ rfl (by kernel_rfl) (by kernel_rfl) (by kernel_rfl) (fun _ _ _ h => h) (by rfl) ?_ hS_ ?_
                    rotate_left
                    · intro w hSw
                      try dsimp only at hSw
                      go_simp
                      with_reducible rfl
                    try simp only [Act.put, List.setIfInBounds_toArray, List.set_cons_zero, List.set_cons_succ]
                    refine takeW 18 ?_ rfl (by kernel_rfl) (by kernel_rfl) (by kernel_rfl) (fun _ _ _ h => h) (by rfl) ?_ hS_ ?_
                    rotate_left
                    · intro w hSw
                      try dsimp only at hSw
                      go_simp
                      with_reducible rfl
                    try simp only [Act.put, List.setIfInBounds_toArray, List.set_cons_zero, List.set_cons_succ]
                    refine takeW 19 ?_ rfl (by kernel_rfl) (by kernel_rfl) (by kernel_rfl) (fun _ _ _ h => h) (by rfl) ?_ hS_ ?_
                    rotate_left
                    · intro w hSw
                      try dsimp only at hSw
                      go_simp
                      with_reducible rfl
                    try simp only [Act.put, List.setIfInBounds_toArray, List.set_cons_zero, List.set_cons_succ]
                    refine takeW 20 ?_ rfl (by kernel_rfl) (by kernel_rfl) (by kernel_rfl) (fun _ _ _ h => h) (by rfl) ?_ hS_ ?_
                    rotate_left
                    · intro w hSw
                      try dsimp only at hSw
                      go_simp
                      with_reducible rfl
                    try simp only [Act.put, List.setIfInBounds_toArray, List.set_cons_zero, List.set_cons_succ]
                    refine takeW 21 ?_ rfl (by kernel_rfl) (by kernel_rfl) (by kernel_rfl) (fun _ _ _ h => h) (by rfl) ?_ hS_ ?_
                    rotate_left
                    · intro w hSw
                      try dsimp only at hSw
                      go_simp
                      with_reducible rfl
                    try simp only [Act.put, List.setIfInBounds_toArray, List.set_cons_zero, List.set_cons_succ]
                    refine takeW 22 ?_ rfl (by kernel_rfl) (by kernel_rfl) (by kernel_rfl) (fun _ _ _ h => h) (by rfl) ?_ hS_ ?_
                    rotate_left
                    · intro w hSw
                      try dsimp only at hSw
                      go_simp
                      with_reducible rfl
                    try simp only [Act.put, List.setIfInBounds_toArray, List.set_cons_zero, List.set_cons_succ]
                    refine takeW 23 ?_ rfl (by kernel_rfl) (by kernel_rfl) (by kernel_rfl) (fun _ _ _ h => h) (by rfl) ?_ hS_ ?_
                    rotate_left
                    · intro w hSw
                      try dsimp only at hSw
                      go_simp
                      with_reducible rfl
                    try simp only [Act.put, List.setIfInBounds_toArray, List.set_cons_zero, List.set_cons_succ]
                    refine takeW 24 ?_ rfl (by kernel_rfl) (by kernel_rfl) (by kernel_rfl) (fun _ _ _ h => h) (by rfl) ?_ hS_ ?_
                    rotate_left
                    · intro w hSw
                      try dsimp only at hSw
                      go_simp
                      with_reducible rfl
                    try simp only [Act.put, List.setIfInBounds_toArray, List.set_cons_zero, List.set_cons_succ]
                    refine takeW 25 ?_ rfl (by kernel_rfl) (by kernel_rfl) (by kernel_rfl) (fun _ _ _ h => h) (by rfl) ?_ hS_ ?_
                    rotate_left
                    · intro w hSw
                      try dsimp only at hSw
                      go_simp
                      with_reducible rfl
                    try simp only [Act.put, List.setIfInBounds_toArray, List.set_cons_zero, List.set_cons_succ]
                    refine takeW 26 ?_ rfl (by kernel_rfl) (by kernel_rfl) (by kernel_rfl) (fun _ _ _ h => h) (by rfl) ?_ hS_ ?_
                    rotate_left
                    · intro w hSw
                      try dsimp only at hSw
                      go_simp
                      with_reducible rfl
                    try simp only [Act.put, List.setIfInBounds_toArray, List.set_cons_zero, List.set_cons_succ]
                    refine takeW 27 ?_ rfl (by kernel_rfl) (by kernel_rfl) (by kernel_rfl) (fun _ _ _ h => h) (by rfl) ?_ hS_ ?_
                    rotate_left
                    · intro w hSw
                      try dsimp only at hSw
                      go_simp
                      with_reducible rfl
                    try simp only [Act.put, List.setIfInBounds_toArray, List.set_cons_zero, List.set_cons_succ]
                    refine takeW 28 ?_ rfl (by kernel_rfl) (by kernel_rfl) (by kernel_rfl) (fun _ _ _ h => h) (by rfl) ?_ hS_ ?_
                    rotate_left
                    · intro w hSw
                      try dsimp only at hSw
                      go_simp
                      with_reducible rfl
                    try simp only [Act.put, List.setIfInBounds_toArray, List.set_cons_zero, List.set_cons_succ]
                    refine takeW 29 ?_ rfl (by kernel_rfl) (by kernel_rfl) (by kernel_rfl) (fun _ _ _ h => h) (by rfl) ?_ hS_ ?_
                    rotate_left
                    · intro w hSw
                      try dsimp only at hSw
                      go_simp
                      with_reducible rfl
                    try simp only [Act.put, List.setIfInBounds_toArray, List.set_cons_zero, List.set_cons_succ]
                    refine takeW 30 ?_ rfl (by kernel_rfl) (by kernel_rfl) (by kernel_rfl) (fun _ _ _ h => h) (by rfl) ?_ hS_ ?_
                    rotate_left
                    · intro w hSw
                      try dsimp only at hSw
                      go_simp
                      with_reducible rfl
                    try simp only [Act.put, List.setIfInBounds_toArray, List.set_cons_zero, List.set_cons_succ]
                    refine wpAnyH_done (by kernel_rfl) ?_ _
                    clear hS0
                    obtain ⟨hbk, -⟩ := hS_
                    have HBf : Hd (Below w3_.heap.size w3_ wk) := ⟨HBB49.out.trans (hbk.mono HBB49.out.size)⟩
                    have hwy := HWY.out
                    clear hbk
                    go_wp2_with fail
                    go_roundw
                    case rel => exact ⟨(kk : Int) + 1, by have := HY.out; omega, by have := HY.out; omega, rfl, HBf⟩
                    case measure => have := HY.out; simp [intOf]; omega
                  · have d1 : decide (0 ≤ y) = true := by simp; omega
                    have d2 : decide (y < (np : Int)) = false := by simp; omega
                    clear hyc hy0 hy1
                    have hS0 : Below V48.heap.size V48 V48.drew ∧ V48.drew.cell? ⟨Bh44, 0, none⟩ = some (Value.int .i64 p0) ∧ V48.drew.cell? ⟨Bh44, 1, none⟩ = some (Value.int .i64 p1) ∧ V48.drew.cell? ⟨Bh44, 2, none⟩ = some (Value.int .i64 p2) ∧ V48.drew.cell? ⟨Bh44, 3, none⟩ = some (Value.int .i64 p3) ∧ V48.drew.cell? ⟨Bh44, 4, none⟩ = some (h8 p4) ∧ V48.drew.cell? ⟨Br48, 0, none⟩ = some (Value.int .i64 p0) ∧ V48.drew.cell? ⟨Br48, 1, none⟩ = some (Value.int .i64 p1) ∧ V48.drew.cell? ⟨Br48, 2, none⟩ = some (Value.int .i64 p2) ∧ V48.drew.cell? ⟨Br48, 3, none⟩ = some (Value.int .i64 p3) ∧ V48.drew.cell? ⟨Br48, 4, none⟩ = some (Value.int .i64 (n8 p4)) ∧ V48.drew.cell? ⟨Br48, 5, none⟩ = some (Value.bool false) := ⟨(Below.refl _ _).drew, (cells_cell HXh49.out 0).trans rfl, (cells_cell HXh49.out 1).trans rfl, (cells_cell HXh49.out 2).trans rfl, (cells_cell HXh49.out 3).trans rfl, (cells_cell HXh49.out 4).trans rfl, (cells_cell HXr49.out 0).trans rfl, (cells_cell HXr49.out 1).trans rfl, (cells_cell HXr49.out 2).trans rfl, (cells_cell HXr49.out 3).trans rfl, (cells_cell HXr49.out 4).trans rfl, (cells_cell HXr49.out 5).trans rfl⟩
                    refine wp_region_held_drew (S := fun W => Below V48.heap.size V48 W ∧ W.cell? ⟨Bh44, 0, none⟩ = some (Value.int .i64 p0) ∧ W.cell? ⟨Bh44, 1, none⟩ = some (Value.int .i64 p1) ∧ W.cell? ⟨Bh44, 2, none⟩ = some (Value.int .i64 p2) ∧ W.cell? ⟨Bh44, 3, none⟩ = some (Value.int .i64 p3) ∧ W.cell? ⟨Bh44, 4, none⟩ = some (h8 p4) ∧ W.cell? ⟨Br48, 0, none⟩ = some (Value.int .i64 p0) ∧ W.cell? ⟨Br48, 1, none⟩ = some (Value.int .i64 p1) ∧ W.cell? ⟨Br48, 2, none⟩ = some (Value.int .i64 p2) ∧ W.cell? ⟨Br48, 3, none⟩ = some (Value.int .i64 p3) ∧ W.cell? ⟨Br48, 4, none⟩ = some (Value.int .i64 (n8 p4)) ∧ W.cell? ⟨Br48, 5, none⟩ = some (Value.bool false)) (by kernel_rfl) (hS0) (fun hS_ => ?_)
                    try dsimp only at hS_
                    refine takeW 0 ?_ rfl (by kernel_rfl) (by kernel_rfl) (by kernel_rfl) (fun _ _ _ h => h) (by rfl) ?_ hS_ ?_
                    rotate_left
                    · intro w hSw
                      try dsimp only at hSw
                      go_simp
                      with_reducible rfl
                    try simp only [Act.put, List.setIfInBounds_toArray, List.set_cons_zero, List.set_cons_succ]
                    refine takeW 1 ?_ rfl (by kernel_rfl) (by kernel_rfl) (by kernel_rfl) (fun _ _ _ h => h) (by rfl) ?_ hS_ ?_
                    rotate_left
                    · intro w hSw
                      try dsimp only at hSw
                      go_simp
                      with_reducible rfl
                    try simp only [Act.put, List.setIfInBounds_toArray, List.set_cons_zero, List.set_cons_succ]
                    refine wpAnyH_ready (rs := [2]) (by kernel_rfl) (by simp) (readyL rfl (fun K hK => ?_) AllReadyH.nil)
                    go_simp
                    refine (refis_any p0 p1 p2 p3 p4 p0 p1 p2 p3 p4 false _).mono ?_
                    rintro e wk ⟨rfl, hBk⟩
                    rw [decide_eq_true rfl]
                    have hS2_ : Below V48.heap.size V48 wk ∧ wk.cell? ⟨Bh44, 0, none⟩ = some (Value.int .i64 p0) ∧ wk.cell? ⟨Bh44, 1, none⟩ = some (Value.int .i64 p1) ∧ wk.cell? ⟨Bh44, 2, none⟩ = some (Value.int .i64 p2) ∧ wk.cell? ⟨Bh44, 3, none⟩ = some (Value.int .i64 p3) ∧ wk.cell? ⟨Bh44, 4, none⟩ = some (h8 p4) ∧ wk.cell? ⟨Br48, 0, none⟩ = some (Value.int .i64 p0) ∧ wk.cell? ⟨Br48, 1, none⟩ = some (Value.int .i64 p1) ∧ wk.cell? ⟨Br48, 2, none⟩ = some (Value.int .i64 p2) ∧ wk.cell? ⟨Br48, 3, none⟩ = some (Value.int .i64 p3) ∧ wk.cell? ⟨Br48, 4, none⟩ = some (Value.int .i64 (n8 p4)) ∧ wk.cell? ⟨Br48, 5, none⟩ = some (Value.bool false) := ⟨hS_.1.trans (hBk.mono hS_.1.size), cell_keep hS_.2.1 hBk, cell_keep hS_.2.2.1 hBk, cell_keep hS_.2.2.2.1 hBk, cell_keep hS_.2.2.2.2.1 hBk, cell_keep hS_.2.2.2.2.2.1 hBk, cell_keep hS_.2.2.2.2.2.2.1 hBk, cell_keep hS_.2.2.2.2.2.2.2.1 hBk, cell_keep hS_.2.2.2.2.2.2.2.2.1 hBk, cell_keep hS_.2.2.2.2.2.2.2.2.2.1 hBk, cell_keep hS_.2.2.2.2.2.2.2.2.2.2.1 hBk, cell_keep hS_.2.2.2.2.2.2.2.2.2.2.2 hBk⟩
                    refine hK.out _ _ hS2_ (fun _ => ?_)
                    clear hK K hS_
                    have hS_ := hS2_
                    clear hS2_
                    try simp only [Act.put, List.setIfInBounds_toArray, List.set_cons_zero, List.set_cons_succ]
                    refine takeW 3 ?_ rfl (by kernel_rfl) (by kernel_rfl) (by kernel_rfl) (fun _ _ _ h => h) (by rfl) ?_ hS_ ?_
                    rotate_left
                    · intro w hSw
                      try dsimp only at hSw
                      go_simp
                      with_reducible rfl
                    try simp only [Act.put, List.setIfInBounds_toArray, List.set_cons_zero, List.set_cons_succ]
                    refine takeW 4 ?_ rfl (by kernel_rfl) (by kernel_rfl) (by kernel_rfl) (fun _ _ _ h => h) (by rfl) ?_ hS_ ?_
                    rotate_left
                    · intro w hSw
                      try dsimp only at hSw
                      go_simp
                      with_reducible rfl
                    try simp only [Act.put, List.setIfInBounds_toArray, List.set_cons_zero, List.set_cons_succ]
                    refine takeW 5 ?_ rfl (by kernel_rfl) (by kernel_rfl) (by kernel_rfl) (fun _ _ _ h => h) (by rfl) ?_ hS_ ?_
                    rotate_left
                    · intro w hSw
                      try dsimp only at hSw
                      go_simp
                      with_reducible rfl
                    try simp only [Act.put, List.setIfInBounds_toArray, List.set_cons_zero, List.set_cons_succ]
                    refine takeW 6 ?_ rfl (by kernel_rfl) (by kernel_rfl) (by kernel_rfl) (fun _ _ _ h => h) (by rfl) ?_ hS_ ?_
                    rotate_left
                    · intro w hSw
                      try dsimp only at hSw
                      go_simp
                      with_reducible rfl
                    try simp only [Act.put, List.setIfInBounds_toArray, List.set_cons_zero, List.set_cons_succ]
                    refine takeW 7 ?_ rfl (by kernel_rfl) (by kernel_rfl) (by kernel_rfl) (fun _ _ _ h => h) (by rfl) ?_ hS_ ?_
                    rotate_left
                    · intro w hSw
                      try dsimp only at hSw
                      go_simp
                      with_reducible rfl
                    try simp only [Act.put, List.setIfInBounds_toArray, List.set_cons_zero, List.set_cons_succ]
                    refine takeW 8 ?_ rfl (by kernel_rfl) (by kernel_rfl) (by kernel_rfl) (fun _ _ _ h => h) (by rfl) ?_ hS_ ?_
                    rotate_left
                    · intro w hSw
                      try dsimp only at hSw
                      go_simp
                      with_reducible rfl
                    try simp only [Act.put, List.setIfInBounds_toArray, List.set_cons_zero, List.set_cons_succ]
                    refine takeW 9 ?_ rfl (by kernel_rfl) (by kernel_rfl) (by kernel_rfl) (fun _ _ _ h => h) (by rfl) ?_ hS_ ?_
                    rotate_left
                    · intro w hSw
                      try dsimp only at hSw
                      go_simp
                      with_reducible rfl
                    try simp only [Act.put, List.setIfInBounds_toArray, List.set_cons_zero, List.set_cons_succ]
                    refine takeW 10 ?_ rfl (by kernel_rfl) (by kernel_rfl) (by kernel_rfl) (fun _ _ _ h => h) (by rfl) ?_ hS_ ?_
                    rotate_left
                    · intro w hSw
                      try dsimp only at hSw
                      go_simp
                      with_reducible rfl
                    try simp only [Act.put, List.setIfInBounds_toArray, List.set_cons_zero, List.set_cons_succ]
                    refine takeW 11 ?_ rfl (by kernel_rfl) (by kernel_rfl) (by kernel_rfl) (fun _ _ _ h => h) (by rfl) ?_ hS_ ?_
                    rotate_left
                    · intro w hSw
                      try dsimp only at hSw
                      go_simp
                      with_reducible rfl
                    try simp only [Act.put, List.setIfInBounds_toArray, List.set_cons_zero, List.set_cons_succ]
                    refine takeW 12 ?_ rfl (by kernel_rfl) (by kernel_rfl) (by kernel_rfl) (fun _ _ _ h => h) (by rfl) ?_ hS_ ?_
                    rotate_left
                    · intro w hSw
                      try dsimp only at hSw
                      go_simp
                      with_reducible rfl
                    try simp only [Act.put, List.setIfInBounds_toArray, List.set_cons_zero, List.set_cons_succ]
                    refine takeW 13 ?_ rfl (by kernel_rfl) (by kernel_rfl) (by kernel_rfl) (fun _ _ _ h => h) (by rfl) ?_ hS_ ?_
                    rotate_left
                    · intro w hSw
                      try dsimp only at hSw
                      go_simp
                      with_reducible rfl
                    try simp only [Act.put, List.setIfInBounds_toArray, List.set_cons_zero, List.set_cons_succ]
                    refine takeW 14 ?_ rfl (by kernel_rfl) (by kernel_rfl) (by kernel_rfl) (fun _ _ _ h => h) (by rfl) ?_ hS_ ?_
                    rotate_left
                    · intro w hSw
                      try dsimp only at hSw
                      go_simp
                      with_reducible rfl
                    try simp only [Act.put, List.setIfInBounds_toArray, List.set_cons_zero, List.set_cons_succ]
                    refine takeW 15 ?_ rfl (by kernel_rfl) (by kernel_rfl) (by kernel_rfl) (fun _ _ _ h => h) (by rfl) ?_ hS_ ?_
                    rotate_left
                    · intro w hSw
                      try dsimp only at hSw
                      go_simp
                      with_reducible rfl
                    try simp only [Act.put, List.setIfInBounds_toArray, List.set_cons_zero, List.set_cons_succ]
                    refine takeW 16 ?_ rfl (by kernel_rfl) (by kernel_rfl) (by kernel_rfl) (fun _ _ _ h => h) (by rfl) ?_ hS_ ?_
                    rotate_left
                    · intro w hSw
                      try dsimp only at hSw
                      go_simp
                      with_reducible rfl
                    try simp only [Act.put, List.setIfInBounds_toArray, List.set_cons_zero, List.set_cons_succ]
                    refine takeW 17 ?_ rfl (by kernel_rfl) (by kernel_rfl) (by kernel_rfl) (fun _ _ _ h => h) (by rfl) ?_ hS_ ?_
                    rotate_left
                    · intro w hSw
                      try dsimp only at hSw
                      go_simp
                      with_reducible rfl
                    try simp only [Act.put, List.setIfInBounds_toArray, List.set_cons_zero, List.set_cons_succ]
                    refine takeW 18 ?_ rfl (by kernel_rfl) (by kernel_rfl) (by kernel_rfl) (fun _ _ _ h => h) (by rfl) ?_ hS_ ?_
                    rotate_left
                    · intro w hSw
                      try dsimp only at hSw
                      go_simp
                      with_reducible rfl
                    try simp only [Act.put, List.setIfInBounds_toArray, List.set_cons_zero, List.set_cons_succ]
                    refine takeN 19 rfl (by kernel_rfl) (by kernel_rfl) (by kernel_rfl) (fun _ _ _ h => h) (by rfl) hS_ ?_
                    try simp only [Act.put, List.setIfInBounds_toArray, List.set_cons_zero, List.set_cons_succ]
                    refine takeN 20 rfl (by kernel_rfl) (by kernel_rfl) (by kernel_rfl) (fun _ _ _ h => h) (by rfl) hS_ ?_
                    try simp only [Act.put, List.setIfInBounds_toArray, List.set_cons_zero, List.set_cons_succ]
                    refine takeN 21 rfl (by kernel_rfl) (by kernel_rfl) (by kernel_rfl) (fun _ _ _ h => h) (by rfl) hS_ ?_
                    try simp only [Act.put, List.setIfInBounds_toArray, List.set_cons_zero, List.set_cons_succ]
                    refine takeN 22 rfl (by kernel_rfl) (by kernel_rfl) (by kernel_rfl) (fun _ _ _ h => h) (by rfl) hS_ ?_
                    try simp only [Act.put, List.setIfInBounds_toArray, List.set_cons_zero, List.set_cons_succ]
                    refine takeN 23 rfl (by kernel_rfl) (by kernel_rfl) (by kernel_rfl) (fun _ _ _ h => h) (by rfl) hS_ ?_
                    try simp only [Act.put, List.setIfInBounds_toArray, List.set_cons_zero, List.set_cons_succ]
                    refine takeN 24 rfl (by kernel_rfl) (by kernel_rfl) (by kernel_rfl) (fun _ _ _ h => h) (by rfl) hS_ ?_
                    try simp only [Act.put, List.setIfInBounds_toArray, List.set_cons_zero, List.set_cons_succ]
                    refine takeN 25 rfl (by kernel_rfl) (by kernel_rfl) (by kernel_rfl) (fun _ _ _ h => h) (by rfl) hS_ ?_
                    try simp only [Act.put, List.setIfInBounds_toArray, List.set_cons_zero, List.set_cons_succ]
                    refine takeN 26 rfl (by kernel_rfl) (by kernel_rfl) (by kernel_rfl) (fun _ _ _ h => h) (by rfl) hS_ ?_
                    try simp only [Act.put, List.setIfInBounds_toArray, List.set_cons_zero, List.set_cons_succ]
                    refine takeN 27 rfl (by kernel_rfl) (by kernel_rfl) (by kernel_rfl) (fun _ _ _ h => h) (by rfl) hS_ ?_
                    try simp only [Act.put, List.setIfInBounds_toArray, List.set_cons_zero, List.set_cons_succ]
                    refine takeN 28 rfl (by kernel_rfl) (by kernel_rfl) (by kernel_rfl) (fun _ _ _ h => h) (by rfl) hS_ ?_
                    try simp only [Act.put, List.setIfInBounds_toArray, List.set_cons_zero, List.set_cons_succ]
                    refine takeW 29 ?_ rfl (by kernel_rfl) (by kernel_rfl) (by kernel_rfl) (fun _ _ _ h => h) (by rfl) ?_ hS_ ?_
                    rotate_left
                    · intro w hSw
                      try dsimp only at hSw
                      go_simp
                      with_reducible rfl
                    try simp only [Act.put, List.setIfInBounds_toArray, List.set_cons_zero, List.set_cons_succ]
                    refine takeW 30 ?_ rfl (by kernel_rfl) (by kernel_rfl) (by kernel_rfl) (fun _ _ _ h => h) (by rfl) ?_ hS_ ?_
                    rotate_left
                    · intro w hSw
                      try dsimp only at hSw
                      go_simp
                      with_reducible rfl
                    try simp only [Act.put, List.setIfInBounds_toArray, List.set_cons_zero, List.set_cons_succ]
                    refine wpAnyH_done (by kernel_rfl) ?_ _
                    clear hS0
                    obtain ⟨hbk, -⟩ := hS_
                    have HBf : Hd (Below w3_.heap.size w3_ wk) := ⟨HBB49.out.trans (hbk.mono HBB49.out.size)⟩
                    have hwy := HWY.out
                    clear hbk
                    go_wp2_with fail
                    go_roundw
                    case rel => exact ⟨y + 1, by have := HY.out; omega, by have := HY.out; omega, rfl, HBf⟩
                    case measure => have := HY.out; simp [intOf]; omega
                · have HNp81_ := Hd.mk (OwnN.below HNp4_.out hB)
                  clear HNp4_
                  have HBl81 := Hd.mk (HBl4.out.trans (hB.mono HBl4.out.size))
                  have HXt81 := Hd.mk ((hB.block w.heap.size (lt_heap HXt4.out)).trans HXt4.out)
                  have HOl81 := Hd.mk (OwnE.below HOpl.out hB)
                  clear HBl4 HXt4 HOpl hB
                  have hyb : decide (y ≤ (np : Int)) = false := by simp; omega
                  clear hy0 hy1
                  go_wp2_with fail
                  refine (overInts_any HOl81.out (by have := HNP2.out; have := HNPB.out; omega)).mono ?_
                  rintro e wo ⟨rfl, hg⟩
                  have HBo := Hd.mk (Below.overI HBl81.out HBl81.out.size HOl81.out HOBS.out hg)
                  clear hg hlt hyb
                  have hwz := HWZ.out
                  go_wp2_with fail
                  go_roundw
                  case rel => exact ⟨z + 1, by have := HZ.out; omega, by have := HZ.out; omega, rfl, HBo⟩
                  case measure => have := HZ.out; simp [intOf]; omega
            · obtain rfl : z = 18 := by omega
              clear hlt hz0 hz1
              go_wp2_with fail
              refine bodyPost_ret (results_tmp Try.results54 _ _ _) rfl ?_
              exact ⟨rfl, HBA.out.trans (HB.out.mono HBA.out.size)⟩
end Go.Proofs.Ytinagiofolmhbaa
