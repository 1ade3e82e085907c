/- The law CellsSmall: its walk. -/
import Derived.Test.YtnhkadknibinfaaS3
namespace Go.Proofs.Ytnhkadknibinfaa
open Go.RowKit
set_option linter.unusedVariables false
set_option linter.unusedSimpArgs false

theorem info59 : ∃ i z, Try.prog.info? 59 = some i ∧ i.zero = some z ∧ z.cells.size = 4 ∧ i.size = 4 ∧ i.bytes = 32 :=
  ⟨_, _, rfl, rfl, by kernel_rfl, by kernel_rfl, by kernel_rfl⟩
theorem append_act {w : World} {base : Nat} {v sv : Value} {xs ys : List Ac} (h : OwnN actL w base 59 v xs) (hb : base ≤ w.heap.size) (hs : SrcN actL w sv ys) (hl : xs.length + ys.length ≤ 100000) :
    ∃ v' w', (Builtin.append_ #[56, 56] 56 #[v, sv]).run Try.prog w = .ok v' w' ∧ OwnN actL w' base 59 v' (xs ++ ys) ∧ w.grownBy w' v.ownBlock := by
  obtain ⟨i, z, hi, hz, hzs, hsz, hby⟩ := info59
  exact OwnN.append (P := Try.prog) 56 i z 32 Try.underlying56 hi hz hsz hby hzs (by decide) h hb hs (by simp only [maxLen]; omega) (by omega)
/-- Acts that are in order, grown beside what was there. -/
structure Grow (w0 W : World) (v : Value) (n : Nat) : Prop where
  own : ∃ L : List Ac, OwnN actL W w0.heap.size 59 v L ∧ L.length = n ∧ ∀ a ∈ L, 0 ≤ a.1 ∧ a.1 < 256
  bel : Below w0.heap.size w0 W
theorem Grow.shape {w0 W : World} {v : Value} {n : Nat} (h : Grow w0 W v n) : ∃ a c, v = .slice a n c := by
  obtain ⟨L, h1, h2, _⟩ := h.own
  obtain ⟨a, c, e⟩ := h1.shape
  exact ⟨a, c, by rw [e, h2]⟩
theorem Grow.push {w0 W : World} {v : Value} {n : Nat} (h : Grow w0 W v n) (hn : n ≤ 1000) (ys : List Ac) (hy : ∀ a ∈ ys, 0 ≤ a.1 ∧ a.1 < 256) (hl : ys.length ≤ 1000) :
    ∃ v' w', (Builtin.append_ #[56, 56] 56 #[v, .slice (some ⟨W.heap.size, 0, none⟩) ys.length ys.length]).run Try.prog (W.alloc (.cells (flatN actL ys).toArray 59)) = .ok v' w' ∧ Grow w0 w' v' (n + ys.length) := by
  obtain ⟨L, h1, h2, h3⟩ := h.own
  have hB := h.bel.alloc h.bel.size (.cells (flatN actL ys).toArray 59)
  obtain ⟨v', w', hr, ho, hg⟩ := append_act (h1.alloc _) hB.size (srcN_box actL ys (heap_alloc_new W _) rfl (by omega)) (by omega)
  refine ⟨v', w', hr, ⟨_, ho, by simp; omega, fun a ha => ?_⟩, OwnN.grown (h1.alloc _) hB hB.size hg⟩
  rcases List.mem_append.1 ha with ha | ha
  · exact h3 a ha
  · exact hy a ha
theorem SrcN.drop {α : Type} {L : Lays α} {w : World} {g n c : Nat} {xs : List α} (h : SrcN L w (.slice (some ⟨g, 0, none⟩) n c) xs) (k : Nat) (hk : k ≤ xs.length) (hx : 0 < xs.length) : SrcN L w (.slice (some ⟨g, k * L.sz, none⟩) (n - k) (c - k)) (xs.drop k) := by
  rcases h with ⟨rfl, h⟩ | ⟨b, off, c', hv, h1, h2, hb, hc⟩
  · simp at hx
  · simp only [Value.slice.injEq, Option.some.injEq, Addr.mk.injEq] at hv
    obtain ⟨⟨rfl, rfl, -⟩, rfl, rfl⟩ := hv
    refine .inr ⟨g, k * L.sz, c - k, by simp, by simp; omega, by omega, hb, fun j hj r u hr => ?_⟩
    rw [List.getElem_drop] at hr
    have := hc (k + j) (by simp at hj; omega) r u hr
    rw [Nat.zero_add, Nat.add_mul] at this
    exact this
theorem make56 : ∃ C : Array Value, C.size = 260 ∧ ∀ W : World, (Instr.makeSlice 56 (.int .i64 65) (.int .i64 65)).run Try.prog W = .ok (.slice (some ⟨W.heap.size, 0, none⟩) 65 65) (W.alloc (.cells C 59)) := by
  refine ⟨madeCells (Value.agg #[.int .u8 0, .int .i64 0, .int .i64 0, .int .i64 0]).cells (65 * 4), by simp [madeCells], fun W => ?_⟩
  obtain ⟨i, hi, hz, hs, hb⟩ := info_parts (P := Try.prog) (e := 59) (z := .agg #[.int .u8 0, .int .i64 0, .int .i64 0, .int .i64 0]) (size := 4) (bytes := 32) (by kernel_rfl)
  have := run_make (P := Try.prog) W 56 59 i _ Try.underlying56 hi hz .i64 .i64 65 65 (by omega) (by omega) (by rw [hb]; omega) (by omega)
  rw [this, hs]
  rfl
/-- A row of acts, as a loop makes marks of them. -/
structure MarkQ (w0 W : World) (g k : Nat) : Prop where
  blk : ∃ cur : Array Value, W.heap[g]? = some (.cells cur 59 (0, 0)) ∧ cur.size = 260 ∧ ∀ j, j < k → cur[j * 4]? = some (.int .u8 4) ∧ cur[j * 4 + 1]? = some (.int .i64 0) ∧ cur[j * 4 + 2]? = some (.int .i64 0) ∧ cur[j * 4 + 3]? = some (.int .i64 0)
  bel : Below w0.heap.size w0 W
  ge : w0.heap.size ≤ g
theorem MarkQ.put {w0 W : World} {g k : Nat} (h : MarkQ w0 W g k) (hk : k < 65) : MarkQ w0 ((((W.setCell ⟨g, k * 4, none⟩ (.int .u8 4)).setCell ⟨g, k * 4 + 1, none⟩ (.int .i64 0)).setCell ⟨g, k * 4 + 2, none⟩ (.int .i64 0)).setCell ⟨g, k * 4 + 3, none⟩ (.int .i64 0)) g (k + 1) := by
  obtain ⟨cur, h0, hs, hr⟩ := h.blk
  have h1 := cells_set (o := k * 4) h0 (.int .u8 4)
  have h2 := cells_set (o := k * 4 + 1) h1 (.int .i64 0)
  have h3 := cells_set (o := k * 4 + 2) h2 (.int .i64 0)
  have h4 := cells_set (o := k * 4 + 3) h3 (.int .i64 0)
  refine ⟨⟨_, h4, by simp [hs], fun j hj => ?_⟩, (((h.bel.setCell h.ge _).setCell h.ge _).setCell h.ge _).setCell h.ge _, h.ge⟩
  simp only [Array.getElem?_setIfInBounds, Array.size_setIfInBounds, hs]
  by_cases e : j = k
  · subst e
    refine ⟨?_, ?_, ?_, ?_⟩
    · rw [if_neg (by omega), if_neg (by omega), if_neg (by omega), if_pos rfl, if_pos (by omega)]
    · rw [if_neg (by omega), if_neg (by omega), if_pos rfl, if_pos (by omega)]
    · rw [if_neg (by omega), if_pos rfl, if_pos (by omega)]
    · rw [if_pos rfl, if_pos (by omega)]
  · obtain ⟨r0, r1, r2, r3⟩ := hr j (by omega)
    refine ⟨?_, ?_, ?_, ?_⟩
    · rw [if_neg (by omega), if_neg (by omega), if_neg (by omega), if_neg (by omega)]; exact r0
    · rw [if_neg (by omega), if_neg (by omega), if_neg (by omega), if_neg (by omega)]; exact r1
    · rw [if_neg (by omega), if_neg (by omega), if_neg (by omega), if_neg (by omega)]; exact r2
    · rw [if_neg (by omega), if_neg (by omega), if_neg (by omega), if_neg (by omega)]; exact r3
theorem MarkQ.cell {w0 W : World} {g k : Nat} (h : MarkQ w0 W g k) (i : Nat) (hi : i < 260) : (∃ v, W.cell? ⟨g, i, none⟩ = some v) ∧ W.frozen? ⟨g, i, none⟩ = false := by
  obtain ⟨cur, h0, hs, _⟩ := h.blk
  exact ⟨⟨_, (cells_cell h0 i).trans (by rw [Array.getElem?_eq_getElem (by omega)])⟩, cells_free h0 i⟩
theorem MarkQ.own {w0 W : World} {g : Nat} (h : MarkQ w0 W g 65) : OwnN actL W w0.heap.size 59 (.slice (some ⟨g, 0, none⟩) 65 65) (List.replicate 65 ((4, 0, 0, 0) : Ac)) := by
  obtain ⟨cur, h0, hs, hr⟩ := h.blk
  have hfl : (flatN actL (List.replicate 65 ((4, 0, 0, 0) : Ac))).length = 260 := by rw [flatN_len]; rfl
  refine ⟨by rw [hfl]; rfl, .inr ⟨g, 65, cur, rfl, h.ge, h0, Nat.le_refl _, by simp [maxLen], by rw [hs]; rfl, ?_⟩⟩
  apply List.ext_getElem?
  intro i
  rw [List.getElem?_take]
  by_cases hi : i < 260
  · rw [if_pos (show i < (List.replicate 65 ((4, 0, 0, 0) : Ac)).length * actL.sz from hi)]
    obtain ⟨q, r, hq, hr4, rfl⟩ : ∃ q r, q < 65 ∧ r < 4 ∧ i = q * 4 + r := ⟨i / 4, i % 4, by omega, by omega, by omega⟩
    obtain ⟨r0, r1, r2, r3⟩ := hr q hq
    have e := flatN_get actL (List.replicate 65 ((4, 0, 0, 0) : Ac)) q (by simpa using hq) r hr4
    rw [show q * actL.sz + r = q * 4 + r from rfl] at e
    rw [e, Array.getElem?_toList, List.getElem_replicate]
    obtain rfl | rfl | rfl | rfl : r = 0 ∨ r = 1 ∨ r = 2 ∨ r = 3 := by omega
    · exact r0
    · exact r1
    · exact r2
    · exact r3
  · rw [if_neg (show ¬ i < (List.replicate 65 ((4, 0, 0, 0) : Ac)).length * actL.sz from hi), List.getElem?_eq_none (by rw [hfl]; omega)]

set_option maxRecDepth 1000000 in
set_option maxHeartbeats 8000000 in
theorem small_law (w : World) : Calls Try.prog 8 #[] w fun e w' => e = .returned (.bool true) ∧ Below w.heap.size w w' := by
  go_enter Try.func8, Try.ntmps8
  go_wp2_with fail
  obtain ⟨w1, hw1⟩ : ∃ W, (w.alloc (.cells lit8 59)) = W := ⟨_, rfl⟩
  have hBl : w1.heap[w.heap.size]? = some (.cells lit8 59 (0, 0)) := by rw [← hw1]; exact heap_alloc_new _ _
  have hBw : Below w.heap.size w w1 := by rw [← hw1]; exact (Below.refl _ _).alloc (Nat.le_refl _) _
  unfold lit8 at hw1
  try rw [hw1]
  obtain ⟨B, hB⟩ : ∃ b, w.heap.size = b := ⟨_, rfl⟩
  rw [hB] at hBl
  try rw [hB]
  have HBL := Hd.mk hBl
  have HBW := Hd.mk hBw
  clear hw1 hB hBl hBw
  go_loopw [2] (fun i W => ∃ n : Nat, n ≤ 32770 ∧ i = .int .i64 n ∧ Hd (Below w1.heap.size w1 W)) (fun i _ => 32770 - (intOf i).toNat)
  case atStart => exact ⟨0, by omega, rfl, ⟨Below.refl _ _⟩⟩
  case round =>
    obtain ⟨n, hn, rfl, HR⟩ := hrel
    by_cases hlt : n < 32768
    · have t0 : decide ((n : Int) < 32768) = true := by simp; omega
      have HLT := Hd.mk hlt
      have n3 : (n : Int) + 3 ≤ 9223372036854775807 := by omega
      have n0 : (0 : Int) ≤ (n : Int) := by omega
      clear hlt hn
      go_wp2_with fail
      refine r5 wr B n ((HR.out.block B (lt_of_heap HBL.out)).trans HBL.out) HLT.out _ (fun c a t v w h => h) ?_
      intro d45 d46 d47 d48 d49 d50 d51 d52 d53 d54 d55 d56 d57 d58 d59 d60 d61 d62 d63 d64 d65 d66 d67 d68 d69 d70 d71 d72 d73 d74 d75 wx hx
      have HX := Hd.mk (HR.out.trans (hx.mono HR.out.size))
      clear hx
      go_wp2_with fail
      go_roundw
      case rel => exact ⟨n + 3, by have := HLT.out; omega, by go_num, HX⟩
      case measure => have := HLT.out; simp [intOf]; omega
    · have t0 : decide ((n : Int) < 32768) = false := by simp; omega
      rename World => w2
      clear hlt hn
      go_wp2_with fail
      obtain ⟨w3, hw3⟩ : ∃ W, (w2.alloc (.cells #[.int .i64 (-9223372036854775808), .int .i64 (-1), .int .i64 0, .int .i64 1, .int .i64 2, .int .i64 3, .int .i64 4, .int .i64 9223372036854775807] 3)) = W := ⟨_, rfl⟩
      have hN3 : w3.heap[w2.heap.size]? = some (.cells #[.int .i64 (-9223372036854775808), .int .i64 (-1), .int .i64 0, .int .i64 1, .int .i64 2, .int .i64 3, .int .i64 4, .int .i64 9223372036854775807] 3 (0, 0)) := by rw [← hw3]; exact heap_alloc_new _ _
      have hB3 : Below w.heap.size w w3 := by rw [← hw3]; exact (HBW.out.trans (HR.out.mono HBW.out.size)).alloc (Nat.le_trans HBW.out.size HR.out.size) _
      have HB3 := Hd.mk hB3
      rw [hw3]
      obtain ⟨Bn, hBn⟩ : ∃ b, w2.heap.size = b := ⟨_, rfl⟩
      rw [hBn] at hN3
      try rw [hBn]
      have HNU : Hd (∀ k, k < 8 → ∃ x : Int, w3.heap[Bn]?.bind (fun o => match o with | .cells cs _ _ => cs[k]? | _ => none) = some (.int .i64 x)) := ⟨fun k hk => by
        rw [hN3]
        match k, hk with
        | 0, _ => exact ⟨_, rfl⟩
        | 1, _ => exact ⟨_, rfl⟩
        | 2, _ => exact ⟨_, rfl⟩
        | 3, _ => exact ⟨_, rfl⟩
        | 4, _ => exact ⟨_, rfl⟩
        | 5, _ => exact ⟨_, rfl⟩
        | 6, _ => exact ⟨_, rfl⟩
        | 7, _ => exact ⟨_, rfl⟩⟩
      have HN3 := Hd.mk hN3
      have HNUM : Hd (∀ W, Below w3.heap.size w3 W → ∀ k, k < 8 → ∃ x : Int, W.cell? ⟨Bn, k, none⟩ = some (.int .i64 x)) := ⟨fun W hW k hk => by
        obtain ⟨x, hx⟩ := HNU.out k hk
        refine ⟨x, ?_⟩
        have hb := (hW.block Bn (lt_of_heap HN3.out)).trans HN3.out
        rw [cells_cell hb]
        rw [HN3.out] at hx
        exact hx⟩
      clear hw3 hN3 hB3 hBn HNU HN3 HR HBW HBL
      go_loopw [4, 80] (fun v i W => ∃ k : Nat, k ≤ 8 ∧ i = .int .i64 k ∧ Hd (Grow w3 W v (16 * k))) (fun _ i _ => 8 - (intOf i).toNat)
      case atStart => exact ⟨0, by omega, rfl, ⟨⟨[], OwnN.nil _ _ _ _, rfl, by simp⟩, Below.refl _ _⟩⟩
      case round =>
        obtain ⟨k, hk, rfl, HR⟩ := hrel
        rename World => wo
        obtain ⟨a, c, rfl⟩ := HR.out.shape
        obtain ⟨L2, hL2⟩ : ∃ n, 16 * k = n := ⟨_, rfl⟩
        rw [hL2] at HR ⊢
        have HL2 := Hd.mk hL2
        clear hL2
        by_cases hlt : k < 8
        · obtain ⟨x, hx⟩ := HNUM.out wo HR.out.bel k hlt
          have k0 : (0 : Int) ≤ (k : Int) := by omega
          have k1 : (k : Int) < 8 := by omega
          have t0 : decide ((k : Int) < 8) = true := by simp; omega
          have HLT := Hd.mk hlt
          clear hlt hk
          go_wp2_with fail
          go_loopw [4, 86] (fun v i W => ∃ j : Nat, j ≤ 8 ∧ i = .int .i64 j ∧ Hd (Grow w3 W v (L2 + 2 * j))) (fun _ i _ => 8 - (intOf i).toNat)
          case atStart => exact ⟨0, by omega, rfl, HR⟩
          case round =>
            obtain ⟨j, hj, rfl, HR3⟩ := hrel
            obtain ⟨a3, c3, rfl⟩ := HR3.out.shape
            obtain ⟨L3, hL3⟩ : ∃ n, L2 + 2 * j = n := ⟨_, rfl⟩
            rw [hL3] at HR3 ⊢
            have HL3 := Hd.mk hL3
            by_cases hjt : j < 8
            · obtain ⟨y, hy⟩ := HNUM.out wr HR3.out.bel j hjt
              have j0 : (0 : Int) ≤ (j : Int) := by omega
              have j1 : (j : Int) < 8 := by omega
              have t1 : decide ((j : Int) < 8) = true := by simp; omega
              have HJT := Hd.mk hjt
              obtain ⟨v', w', hr0, hg0⟩ := HR3.out.push (by have := HL2.out; have := HLT.out; omega) [(0, x, y, x), (7, x, y, 0)] (by
                intro a ha
                simp only [List.mem_cons, List.not_mem_nil, or_false] at ha
                rcases ha with rfl | rfl <;> exact ⟨by simp, by simp⟩) (by simp)
              have hr : (Builtin.append_ #[56, 56] 56 #[.slice a3 L3 c3, .slice (some ⟨wr.heap.size, 0, none⟩) 2 2]).run Try.prog (wr.alloc (.cells #[.int .u8 0, .int .i64 x, .int .i64 y, .int .i64 x, .int .u8 7, .int .i64 x, .int .i64 y, .int .i64 0] 59)) = .ok v' w' := hr0
              have HG0 : Hd (Grow w3 w' v' (L3 + 2)) := ⟨hg0⟩
              clear hr0 hg0 hjt hj hL3
              go_wp2_with (at_builtin; refine wpList_append_run rfl _ _ _ rfl rfl rfl hr ?_; clear hr)
              go_roundw
              case rel => exact ⟨j + 1, by have := HJT.out; omega, by go_num, by rw [show L2 + 2 * (j + 1) = L3 + 2 from by have := HL3.out; omega]; exact HG0⟩
              case measure => have := HJT.out; simp [intOf]; omega
            · obtain rfl : j = 8 := by omega
              clear hjt hj hL3
              go_wp2_with fail
              go_roundw
              case rel => exact ⟨k + 1, by have := HLT.out; omega, by go_num, by rw [show 16 * (k + 1) = L3 from by have := HL3.out; have := HL2.out; omega]; exact HR3⟩
              case measure => have := HLT.out; simp [intOf]; omega
        · obtain rfl : k = 8 := by omega
          obtain rfl : L2 = 128 := by have := HL2.out; omega
          clear hlt hk
          have hz8 : ((8 : Nat) : Int) = 8 := rfl
          rw [hz8]
          clear hz8
          obtain ⟨g, hga, hc, HSRC⟩ : ∃ g, a = some ⟨g, 0, none⟩ ∧ 128 ≤ c ∧ Hd (∃ L : List Ac, L.length = 128 ∧ (∀ a ∈ L, 0 ≤ a.1 ∧ a.1 < 256) ∧ ∀ W, Below wo.heap.size wo W → SrcN actL W (.slice (some ⟨g, 0, none⟩) 128 c) L) := by
            obtain ⟨L, h1, h2, h3⟩ := HR.out.own
            obtain ⟨g, cur, rfl, _⟩ := h1.cur (by omega)
            refine ⟨g, rfl, ?_, ⟨L, h2, h3, fun W hW => h1.src.below hW⟩⟩
            rcases h1.src with ⟨h, _⟩ | ⟨b, off, c', hv, h4, _⟩
            · rw [h] at h2; simp at h2
            · simp only [Value.slice.injEq] at hv
              omega
          subst hga
          have HB4 : Hd (Below w.heap.size w wo) := ⟨HB3.out.trans (HR.out.bel.mono HB3.out.size)⟩
          have c1 : (128 : Int) ≤ (c : Int) := by omega
          have c2 : (64 : Int) ≤ (c : Int) := by omega
          have c3 : (70 : Int) ≤ (c : Int) := by omega
          clear HR HNUM HB3 HL2 c1
          go_wp2_with fail
          have hx := heap_alloc_new wo (.cells #[.int .i64 2, .int .i64 0, .int .i64 3] 3)
          have hB5 : Below wo.heap.size wo (wo.alloc (.cells #[.int .i64 2, .int .i64 0, .int .i64 3] 3)) := (Below.refl _ _).alloc (Nat.le_refl _) _
          obtain ⟨L, hl1, hl2, hl3⟩ := HSRC.out
          have HL := Hd.mk (And.intro hl1 (And.intro hl2 hl3))
          clear hl1 hl2 hl3 HSRC
          refine (acts_any (srcI_box [2, 0, 3] hx rfl) (by simp) ((HL.out.2.2 _ hB5).take 64 (by rw [HL.out.1]; omega)) (fun a ha => HL.out.2.1 a (List.mem_of_mem_take ha))).mono ?_
          rintro e w6 ⟨rfl, hB6⟩
          have HB6 : Hd (Below wo.heap.size wo w6) := ⟨hB5.trans (hB6.mono hB5.size)⟩
          clear hx hB5 hB6
          go_wp2_with fail
          have hx := heap_alloc_new w6 (.cells #[.int .i64 2, .int .i64 0, .int .i64 3] 3)
          have hB7 : Below wo.heap.size wo (w6.alloc (.cells #[.int .i64 2, .int .i64 0, .int .i64 3] 3)) := HB6.out.alloc HB6.out.size _
          refine (acts_any (srcI_box [2, 0, 3] hx rfl) (by simp) (show SrcN actL _ (.slice (some ⟨g, 256, none⟩) 64 (c - 64)) (L.drop 64) from (HL.out.2.2 _ hB7).drop 64 (by rw [HL.out.1]; omega) (by rw [HL.out.1]; omega)) (fun a ha => HL.out.2.1 a (List.mem_of_mem_drop ha))).mono ?_
          rintro e w8 ⟨rfl, hB8⟩
          have HB8 : Hd (Below wo.heap.size wo w8) := ⟨hB7.trans (hB8.mono hB7.size)⟩
          clear hx hB7 hB8 HB6
          go_wp2_with fail
          refine (acts_any (SrcI.nil w8) (by simp) ((HL.out.2.2 _ HB8.out).take 70 (by rw [HL.out.1]; omega)) (fun a ha => HL.out.2.1 a (List.mem_of_mem_take ha))).mono ?_
          rintro e w9 ⟨rfl, hB9⟩
          have HB9 : Hd (Below w.heap.size w w9) := ⟨HB4.out.trans ((HB8.out.trans (hB9.mono HB8.out.size)).mono HB4.out.size)⟩
          clear hB9 HB8 HL HB4 c2 c3 hc
          go_wp2_with fail
          refine r20 w9 _ (fun c a t v w h => h) ?_
          intro b0 b1 b2 b3 b4 b5 b6 b7 b8 b9 b10 b11 Bp w10 hBe k0 k1 k2 k3 k4 k5 k6 k7 k8 k9 k10 k11 hBx
          have HV : Hd (∀ k, k < 12 → ∃ (b m : Nat) (p : List Int), w10.cell? ⟨Bp, k, none⟩ = some (.slice (some ⟨b, 0, none⟩) m m) ∧ SrcI w10 (.slice (some ⟨b, 0, none⟩) m m) p) := ⟨fun k hk => by
            match k, hk with
            | 0, _ => exact ⟨b0, 1, [1024], (cells_cell hBx 0).trans rfl, srcI_box [1024] k0 rfl⟩
            | 1, _ => exact ⟨b1, 2, [1023, 1], (cells_cell hBx 1).trans rfl, srcI_box [1023, 1] k1 rfl⟩
            | 2, _ => exact ⟨b2, 2, [1024, 1], (cells_cell hBx 2).trans rfl, srcI_box [1024, 1] k2 rfl⟩
            | 3, _ => exact ⟨b3, 1, [1025], (cells_cell hBx 3).trans rfl, srcI_box [1025] k3 rfl⟩
            | 4, _ => exact ⟨b4, 1, [(-1)], (cells_cell hBx 4).trans rfl, srcI_box [(-1)] k4 rfl⟩
            | 5, _ => exact ⟨b5, 2, [5, (-1)], (cells_cell hBx 5).trans rfl, srcI_box [5, (-1)] k5 rfl⟩
            | 6, _ => exact ⟨b6, 2, [4611686018427387904, 4611686018427387904], (cells_cell hBx 6).trans rfl, srcI_box [4611686018427387904, 4611686018427387904] k6 rfl⟩
            | 7, _ => exact ⟨b7, 1, [(-9223372036854775808)], (cells_cell hBx 7).trans rfl, srcI_box [(-9223372036854775808)] k7 rfl⟩
            | 8, _ => exact ⟨b8, 16, List.replicate 16 0, (cells_cell hBx 8).trans rfl, srcI_zeros k8 (by omega)⟩
            | 9, _ => exact ⟨b9, 17, List.replicate 17 0, (cells_cell hBx 9).trans rfl, srcI_zeros k9 (by omega)⟩
            | 10, _ => exact ⟨b10, 3, [1024, 0, 0], (cells_cell hBx 10).trans rfl, srcI_box [1024, 0, 0] k10 rfl⟩
            | 11, _ => exact ⟨b11, 2, [512, 513], (cells_cell hBx 11).trans rfl, srcI_box [512, 513] k11 rfl⟩⟩
          have HBp := Hd.mk (lt_of_heap hBx)
          have HB10 : Hd (Below w.heap.size w w10) := ⟨HB9.out.trans (hBe.mono HB9.out.size)⟩
          clear hBe k0 k1 k2 k3 k4 k5 k6 k7 k8 k9 k10 k11 hBx HB9
          go_wp2_with fail
          go_loopw [134] (fun i W => ∃ k : Nat, k ≤ 12 ∧ i = .int .i64 k ∧ Hd (Below w10.heap.size w10 W)) (fun i _ => 12 - (intOf i).toNat)
          case atStart => exact ⟨0, by omega, rfl, ⟨Below.refl _ _⟩⟩
          case round =>
            obtain ⟨k, hk, rfl, HR⟩ := hrel
            by_cases hlt : k < 12
            · obtain ⟨b, m, p, hc0, hs0⟩ := HV.out k hlt
              have q0 := (HR.out.cell (p := ⟨Bp, k, none⟩) HBp.out).trans hc0
              have HS := Hd.mk (hs0.below HR.out)
              have k0 : (0 : Int) ≤ (k : Int) := by omega
              have k1 : (k : Int) < 12 := by omega
              have t0 : decide ((k : Int) < 12) = true := by simp; omega
              have HLT := Hd.mk hlt
              clear hlt hk hc0 hs0
              cases hrv : rightV p with
              | true =>
                have HRV := Hd.mk hrv
                clear hrv
                go_wp2_with fail
                refine (x_new (a := zeros p) HS.out HRV.out rfl).mono ?_
                rintro e w11 ⟨M, p3, rfl, hm, hp3, hB11⟩
                have HB11 := Hd.mk hB11
                clear hm hp3 hB11
                go_wp2_with fail
                have h29 := rright_any _ p w11 (HS.out.below HB11.out)
                rw [HRV.out] at h29
                refine h29.mono ?_
                rintro e w12 ⟨rfl, rfl⟩
                clear h29
                go_wp2_with fail
                have h27 := right_any _ p w11 (HS.out.below HB11.out)
                rw [HRV.out] at h27
                refine h27.mono ?_
                rintro e w12 ⟨rfl, hB12⟩
                have HB12 : Hd (Below w10.heap.size w10 w12) := ⟨HR.out.trans ((HB11.out.trans (hB12.mono HB11.out.size)).mono HR.out.size)⟩
                clear h27 hB12
                go_wp2_with fail
                go_roundw
                case rel => exact ⟨k + 1, by have := HLT.out; omega, by go_num, HB12⟩
                case measure => have := HLT.out; simp [intOf]; omega
              | false =>
                have HRV := Hd.mk hrv
                clear hrv
                go_wp2_with fail
                refine (new_wrong _ p _ HS.out HRV.out).mono ?_
                rintro e w11 ⟨rfl, hB11⟩
                have HB11 := Hd.mk hB11
                clear hB11
                go_wp2_with fail
                have h29 := rright_any _ p w11 (HS.out.below HB11.out)
                rw [HRV.out] at h29
                refine h29.mono ?_
                rintro e w12 ⟨rfl, rfl⟩
                clear h29
                go_wp2_with fail
                have h27 := right_any _ p w11 (HS.out.below HB11.out)
                rw [HRV.out] at h27
                refine h27.mono ?_
                rintro e w12 ⟨rfl, hB12⟩
                have HB12 : Hd (Below w10.heap.size w10 w12) := ⟨HR.out.trans ((HB11.out.trans (hB12.mono HB11.out.size)).mono HR.out.size)⟩
                clear h27 hB12
                go_wp2_with fail
                go_roundw
                case rel => exact ⟨k + 1, by have := HLT.out; omega, by go_num, HB12⟩
                case measure => have := HLT.out; simp [intOf]; omega
            · obtain rfl : k = 12 := by omega
              have HB13 : Hd (Below w.heap.size w wr) := ⟨HB10.out.trans (HR.out.mono HB10.out.size)⟩
              rename World => w13
              have hz12 : ((12 : Nat) : Int) = 12 := rfl
              rw [hz12]
              obtain ⟨C56, hC56, hmk⟩ := make56
              have HC56 := Hd.mk hC56
              have hmk := hmk w13
              clear hlt hk HR HV HBp HB10 hz12 hC56
              go_wp2_with fail
              obtain ⟨w14, hw14⟩ : ∃ W, (w13.alloc (.cells C56 59)) = W := ⟨_, rfl⟩
              have hb14 : w14.heap[w13.heap.size]? = some (.cells C56 59 (0, 0)) := by rw [← hw14]; exact heap_alloc_new _ _
              have hB14 : Below w13.heap.size w13 w14 := by rw [← hw14]; exact (Below.refl _ _).alloc (Nat.le_refl _) _
              rw [hw14]
              obtain ⟨g5, hg5⟩ : ∃ b, w13.heap.size = b := ⟨_, rfl⟩
              have HMQ : Hd (MarkQ w13 w14 g5 0) := ⟨⟨C56, by rw [← hg5]; exact hb14, HC56.out, fun j hj => by omega⟩, hB14, by omega⟩
              rw [hg5]
              clear hw14 hb14 hB14 hg5 hmk HC56
              go_loopw [173] (fun i W => ∃ k : Nat, k ≤ 65 ∧ i = .int .i64 k ∧ Hd (MarkQ w13 W g5 k)) (fun i _ => 65 - (intOf i).toNat)
              case atStart => exact ⟨0, by omega, rfl, HMQ⟩
              case round =>
                obtain ⟨k, hk, rfl, HR⟩ := hrel
                by_cases hlt : k < 65
                · obtain ⟨⟨x0, y0⟩, f0⟩ := HR.out.cell (k * 4) (by omega)
                  obtain ⟨⟨x1, y1⟩, f1⟩ := HR.out.cell (k * 4 + 1) (by omega)
                  obtain ⟨⟨x2, y2⟩, f2⟩ := HR.out.cell (k * 4 + 2) (by omega)
                  obtain ⟨⟨x3, y3⟩, f3⟩ := HR.out.cell (k * 4 + 3) (by omega)
                  have HPUT := Hd.mk (HR.out.put hlt)
                  have k0 : (0 : Int) ≤ (k : Int) := by omega
                  have k1 : (k : Int) < 65 := by omega
                  have t0 : decide ((k : Int) < 65) = true := by simp; omega
                  have HLT := Hd.mk hlt
                  clear hlt hk
                  go_wp2_with fail
                  go_roundw
                  case rel => exact ⟨k + 1, by have := HLT.out; omega, by go_num, HPUT⟩
                  case measure => have := HLT.out; simp [intOf]; omega
                · obtain rfl : k = 65 := by omega
                  rename World => w15
                  have hz65 : ((65 : Nat) : Int) = 65 := rfl
                  rw [hz65]
                  have hB15 := HR.out.bel
                  have hX1 := (Below.refl w15.heap.size w15).alloc (Nat.le_refl _) (.cells #[.int .i64 1] 3)
                  have hX2 := (Below.refl (w15.alloc (.cells #[.int .i64 1] 3)).heap.size (w15.alloc (.cells #[.int .i64 1] 3))).alloc (Nat.le_refl _) (.cells #[.int .u8 5, .int .i64 0, .int .i64 0, .int .i64 0, .int .u8 4, .int .i64 0, .int .i64 0, .int .i64 0, .int .u8 4, .int .i64 0, .int .i64 0, .int .i64 0] 59)
                  have hsz : (w15.alloc (.cells #[.int .i64 1] 3)).heap.size = w15.heap.size + 1 := by simp
                  have hb1 := heap_alloc_new w15 (.cells #[.int .i64 1] 3)
                  have hb2 := heap_alloc_new (w15.alloc (.cells #[.int .i64 1] 3)) (.cells #[.int .u8 5, .int .i64 0, .int .i64 0, .int .i64 0, .int .u8 4, .int .i64 0, .int .i64 0, .int .i64 0, .int .u8 4, .int .i64 0, .int .i64 0, .int .i64 0] 59)
                  have hb1' := (hX2.block _ (lt_of_heap hb1)).trans hb1
                  rw [hsz] at hb2
                  have hBx : Below w13.heap.size w13 ((w15.alloc (.cells #[.int .i64 1] 3)).alloc (.cells #[.int .u8 5, .int .i64 0, .int .i64 0, .int .i64 0, .int .u8 4, .int .i64 0, .int .i64 0, .int .i64 0, .int .u8 4, .int .i64 0, .int .i64 0, .int .i64 0] 59)) := (hB15.trans (hX1.mono hB15.size)).trans (hX2.mono (Nat.le_trans hB15.size hX1.size))
                  obtain ⟨v', w16, hr, ho, hg⟩ := append_act ((HR.out.own.alloc (.cells #[.int .i64 1] 3)).alloc _) hBx.size (srcN_box actL [(5, 0, 0, 0), (4, 0, 0, 0), (4, 0, 0, 0)] hb2 rfl (by simp)) (by simp)
                  have HB16 := Hd.mk (OwnN.grown ((HR.out.own.alloc (.cells #[.int .i64 1] 3)).alloc _) hBx hBx.size hg)
                  have HP16 : Hd (SrcI w16 (.slice (some ⟨w15.heap.size, 0, none⟩) 1 1) [1]) := ⟨srcI_box [1] ((hg.block _ (lt_of_heap hb1') (fun e => by
                    have := HR.out.ge
                    have h13 := hB15.size
                    have hgl : g5 < w15.heap.size := by obtain ⟨cur, h0, _⟩ := HR.out.blk; exact lt_of_heap h0
                    simp [Value.ownBlock] at e
                    omega)).trans hb1') rfl⟩
                  have HO16 := Hd.mk ho
                  have hr : (Builtin.append_ #[56, 56] 56 #[.slice (some ⟨g5, 0, none⟩) 65 65, .slice (some ⟨w15.heap.size + 1, 0, none⟩) 3 3]).run Try.prog ((w15.alloc (.cells #[.int .i64 1] 3)).alloc (.cells #[.int .u8 5, .int .i64 0, .int .i64 0, .int .i64 0, .int .u8 4, .int .i64 0, .int .i64 0, .int .i64 0, .int .u8 4, .int .i64 0, .int .i64 0, .int .i64 0] 59)) = .ok v' w16 := hr
                  clear hB15 hX1 hX2 hsz hb1 hb2 hb1' hBx ho hg hlt hk hz65 HR
                  go_wp2_with (at_builtin; refine wpList_append_run rfl _ _ _ rfl rfl rfl hr ?_; clear hr)
                  refine (acts_any HP16.out (by simp) HO16.out.src (fun a ha => by
                    rcases List.mem_append.1 ha with ha | ha
                    · have := List.eq_of_mem_replicate ha
                      subst this
                      exact ⟨by simp, by simp⟩
                    · simp only [List.mem_cons, List.not_mem_nil, or_false] at ha
                      rcases ha with rfl | rfl | rfl <;> exact ⟨by simp, by simp⟩)).mono ?_
                  rintro e w17 ⟨rfl, hB17⟩
                  have HB17 : Hd (Below w.heap.size w w17) := ⟨HB13.out.trans ((HB16.out.trans (hB17.mono HB16.out.size)).mono HB13.out.size)⟩
                  clear hB17 HB16 HP16 HO16 HB13
                  go_wp2_with fail
                  obtain ⟨w18, hw18⟩ : ∃ W, ((w17.alloc (.cells #[.bool false, .slice none 0 0, .slice none 0 0] 63)).alloc (.cells #[.pointer none, .pointer (some ⟨w17.heap.size, 0, none⟩)] 24)) = W := ⟨_, rfl⟩
                  have hs1 : (w17.alloc (.cells #[.bool false, .slice none 0 0, .slice none 0 0] 63)).heap.size = w17.heap.size + 1 := by simp
                  have hb1 := heap_alloc_new w17 (.cells #[.bool false, .slice none 0 0, .slice none 0 0] 63)
                  have hb2 := heap_alloc_new (w17.alloc (.cells #[.bool false, .slice none 0 0, .slice none 0 0] 63)) (.cells #[.pointer none, .pointer (some ⟨w17.heap.size, 0, none⟩)] 24)
                  have hb1' := (Below.heap_alloc (w17.alloc (.cells #[.bool false, .slice none 0 0, .slice none 0 0] 63)) (.cells #[.pointer none, .pointer (some ⟨w17.heap.size, 0, none⟩)] 24) _ (lt_of_heap hb1)).trans hb1
                  have hB18 : Below w.heap.size w w18 := by rw [← hw18]; exact (HB17.out.alloc HB17.out.size _).alloc (by rw [hs1]; have := HB17.out.size; omega) _
                  rw [hs1] at hb2
                  rw [hw18] at hb1' hb2
                  rw [hw18]
                  obtain ⟨Bz, hBz⟩ : ∃ b, w17.heap.size = b := ⟨_, rfl⟩
                  rw [hBz] at hb1' hb2
                  try rw [hBz]
                  have HNZ : Hd (∀ k, k < 2 → ∃ v, w18.cell? ⟨Bz + 1, k, none⟩ = some v ∧ NoM w18 v) := ⟨fun k hk => by
                    match k, hk with
                    | 0, _ => exact ⟨_, (cells_cell hb2 0).trans rfl, .inl rfl⟩
                    | 1, _ => exact ⟨_, (cells_cell hb2 1).trans rfl, .inr ⟨Bz, rfl, lt_of_heap hb1', (cells_cell hb1' 0).trans rfl⟩⟩⟩
                  have HBZ := Hd.mk (lt_of_heap hb2)
                  have HB18 := Hd.mk hB18
                  clear hw18 hs1 hb1 hb2 hb1' hB18 hBz HB17
                  go_loopw [194] (fun i W => ∃ k : Nat, k ≤ 2 ∧ i = .int .i64 k ∧ Hd (Below w18.heap.size w18 W)) (fun i _ => 2 - (intOf i).toNat)
                  case atStart => exact ⟨0, by omega, rfl, ⟨Below.refl _ _⟩⟩
                  case round =>
                    obtain ⟨k, hk, rfl, HR⟩ := hrel
                    rename World => wo
                    by_cases hlt : k < 2
                    · obtain ⟨v, hcv, hnv⟩ := HNZ.out k hlt
                      have q0 := (HR.out.cell (p := ⟨Bz + 1, k, none⟩) HBZ.out).trans hcv
                      have HN0 := Hd.mk (hnv.below HR.out)
                      have k0 : (0 : Int) ≤ (k : Int) := by omega
                      have k1 : (k : Int) < 2 := by omega
                      have t0 : decide ((k : Int) < 2) = true := by simp; omega
                      have HLT := Hd.mk hlt
                      clear hlt hk hcv hnv
                      go_wp2_with fail
                      refine (no_load HN0.out 1 0).mono ?_
                      rintro e wx ⟨rfl, rfl⟩
                      clear q0
                      go_wp2_with fail
                      refine (no_store HN0.out 1 0 1).mono ?_
                      rintro e wx ⟨rfl, rfl⟩
                      go_wp2_with fail
                      refine (no_mark HN0.out).mono ?_
                      rintro e wx ⟨rfl, rfl⟩
                      go_wp2_with fail
                      refine (no_back HN0.out).mono ?_
                      rintro e wa ⟨rfl, hBa⟩
                      have HBa := Hd.mk hBa
                      clear hBa
                      go_wp2_with fail
                      refine (no_keep (HN0.out.below HBa.out)).mono ?_
                      rintro e wb ⟨rfl, hBb⟩
                      have HBb := Hd.mk (HBa.out.trans (hBb.mono HBa.out.size))
                      clear hBb HBa
                      go_wp2_with fail
                      refine (no_all (HN0.out.below HBb.out) 1).mono ?_
                      rintro e wc ⟨x9, rfl, hBc⟩
                      have HBc := Hd.mk (HBb.out.trans (hBc.mono HBb.out.size))
                      clear hBc HBb
                      go_wp2_with fail
                      obtain ⟨wd, hwd⟩ : ∃ W, (wc.alloc (.cells #[.int .i64 1, .int .i64 1, .int .i64 1, .int .i64 1, .int .i64 1, .int .i64 1] 33)) = W := ⟨_, rfl⟩
                      have hbd : wd.heap[wc.heap.size]? = some (.cells #[.int .i64 1, .int .i64 1, .int .i64 1, .int .i64 1, .int .i64 1, .int .i64 1] 33 (0, 0)) := by rw [← hwd]; exact heap_alloc_new _ _
                      have hBd : Below wo.heap.size wo wd := by rw [← hwd]; exact HBc.out.alloc HBc.out.size _
                      rw [hwd]
                      obtain ⟨Be, hBe⟩ : ∃ b, wc.heap.size = b := ⟨_, rfl⟩
                      rw [hBe] at hbd
                      try rw [hBe]
                      have HBD := Hd.mk hBd
                      have HER : Hd (∀ j, j < 6 → wd.cell? ⟨Be, j, none⟩ = some (.int .i64 1)) := ⟨fun j hj => by
                        rw [cells_cell hbd]
                        match j, hj with
                        | 0, _ => rfl
                        | 1, _ => rfl
                        | 2, _ => rfl
                        | 3, _ => rfl
                        | 4, _ => rfl
                        | 5, _ => rfl⟩
                      clear hwd hbd hBd hBe HBc
                      go_loop [236] (fun i => ∃ j : Nat, j ≤ 6 ∧ i = .int .i64 j) (fun i => 6 - (intOf i).toNat)
                      case atStart => exact ⟨0, by omega, rfl⟩
                      case round =>
                        obtain ⟨j, hj, rfl⟩ := hrel
                        by_cases hjt : j < 6
                        · have q1 := HER.out j hjt
                          have j0 : (0 : Int) ≤ (j : Int) := by omega
                          have j1 : (j : Int) < 6 := by omega
                          have t1 : decide ((j : Int) < 6) = true := by simp; omega
                          have HJT := Hd.mk hjt
                          clear hjt hj
                          go_wp2_with fail
                          go_round
                          case rel => exact ⟨j + 1, by have := HJT.out; omega, by go_num⟩
                          case measure => have := HJT.out; simp [intOf]; omega
                        · obtain rfl : j = 6 := by omega
                          have HN1 := Hd.mk (HN0.out.below HBD.out)
                          clear hjt hj HER
                          go_wp2_with fail
                          refine (no_marks HN1.out).mono ?_
                          rintro e wx ⟨rfl, rfl⟩
                          go_wp2_with fail
                          refine (no_changes HN1.out).mono ?_
                          rintro e we ⟨rfl, hBe⟩
                          have HBe := Hd.mk hBe
                          clear hBe
                          go_wp2_with fail
                          refine (no_plan (HN1.out.below HBe.out)).mono ?_
                          rintro e wx ⟨rfl, rfl⟩
                          go_wp2_with fail
                          refine (no_copy (HN1.out.below HBe.out)).mono ?_
                          rintro e wx ⟨rfl, rfl⟩
                          have HBf : Hd (Below w18.heap.size w18 we) := ⟨HR.out.trans ((HBD.out.trans (HBe.out.mono HBD.out.size)).mono HR.out.size)⟩
                          clear HBe HBD HN0 HN1
                          go_wp2_with fail
                          go_roundw
                          case rel => exact ⟨k + 1, by have := HLT.out; omega, by go_num, HBf⟩
                          case measure => have := HLT.out; simp [intOf]; omega
                    · obtain rfl : k = 2 := by omega
                      have HBg : Hd (Below w.heap.size w wo) := ⟨HB18.out.trans (HR.out.mono HB18.out.size)⟩
                      have hz2 : ((2 : Nat) : Int) = 2 := rfl
                      rw [hz2]
                      clear hz2 hlt hk HR HNZ HBZ HB18
                      go_wp2_with fail
                      refine (awake_any _).mono ?_
                      rintro e wz ⟨rfl, hBz⟩
                      have HBh : Hd (Below w.heap.size w wz) := ⟨HBg.out.trans (hBz.mono HBg.out.size)⟩
                      clear hBz
                      go_wp2_with fail
                      go_ret
                      exact ⟨rfl, HBh.out⟩
end Go.Proofs.Ytnhkadknibinfaa
