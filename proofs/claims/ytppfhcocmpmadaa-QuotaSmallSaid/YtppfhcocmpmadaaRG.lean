/- The reference's slices: theirs, slices.Equal, Back. -/
import Derived.Test.YtppfhcocmpmadaaRA
import Derived.Test.YtppfhcocmpmadaaD
namespace Go.Proofs.Ytppfhcocmpmadaa
open Go.RowKit
set_option linter.unusedVariables false

theorem info82 : ∃ i z, Try.prog.info? 82 = some i ∧ i.zero = some z ∧ z.cells.size = 2 ∧ i.size = 2 ∧ i.bytes = 16 :=
  ⟨_, _, rfl, rfl, by kernel_rfl, by kernel_rfl, by kernel_rfl⟩
theorem append_r {w : World} {base : Nat} {v sv : Value} {cs ys : List (Int × Int)} (h : OwnC w base 82 v cs) (hbase : base ≤ w.heap.size) (hs : SrcC w sv ys) (hl : cs.length + ys.length ≤ 1000000) :
    ∃ v' w', (Builtin.append_ #[69, 69] 69 #[v, sv]).run Try.prog w = .ok v' w' ∧ OwnC w' base 82 v' (cs ++ ys) ∧ w.grownBy w' v.ownBlock ∧ (v'.ownBlock = v.ownBlock ∨ v'.ownBlock = some w.heap.size) := by
  obtain ⟨i, z, hi, hz, hzs, hsz, hby⟩ := info82
  have go : ∀ (ad : Addr) (c : Nat), (∀ j u, (flat ys)[j]? = some u → w.cell? (ad.add j) = some u) → sv = .slice (some ad) ys.length c →
      ∃ v' w', (Builtin.append_ #[69, 69] 69 #[v, sv]).run Try.prog w = .ok v' w' ∧ OwnC w' base 82 v' (cs ++ ys) ∧ w.grownBy w' v.ownBlock ∧ (v'.ownBlock = v.ownBlock ∨ v'.ownBlock = some w.heap.size) := by
    rintro ad c hcell rfl
    obtain ⟨v', w', hr, ho, hg, _, hat⟩ := run_append_own_at (P := Try.prog) w base 69 69 82 i z 2 16 Try.underlying69 hi hz hsz hby hzs (by decide) v cs.length (flat cs) h ad ys.length c (flat ys)
      (flat_len ys) hcell (flat_one ys) (by simp only [maxLen]; omega) (by omega) hbase
    refine ⟨v', w', hr, ?_, hg, hat⟩
    unfold OwnC
    rw [List.length_append, flat_app]
    exact ho
  rcases hs with ⟨rfl, a, c, rfl, hac⟩ | ⟨b, off, c, rfl, _, _, _, hcell⟩
  · cases a with
    | none =>
      obtain rfl := hac rfl
      exact ⟨v, w, run_append_owned_none (P := Try.prog) w base 69 69 82 i 2 Try.underlying69 hi v cs.length (flat cs) h, by rw [List.append_nil]; exact h, ⟨rfl, rfl, rfl, Nat.le_refl _, fun _ _ _ => rfl⟩, .inl rfl⟩
    | some ad => exact go ad c (fun j u hj => by simp [flat] at hj) rfl
  · refine go ⟨b, off, none⟩ c (fun j u hj => ?_) rfl
    rw [plain_add]
    have hlt : j < ys.length * 2 := by
      rcases Nat.lt_or_ge j (flat ys).length with h | h
      · rwa [flat_len] at h
      · rw [List.getElem?_eq_none h] at hj; cases hj
    obtain ⟨g1, g2⟩ := flat_get ys (j / 2) (by omega)
    obtain ⟨c1, c2⟩ := hcell (j / 2) (by omega)
    by_cases he : j % 2 = 0
    · rw [show j / 2 * 2 = j from by omega] at g1 c1
      rw [g1] at hj; cases hj; exact c1
    · rw [show j / 2 * 2 + 1 = j from by omega] at g2
      rw [show off + j / 2 * 2 + 1 = off + j from by omega] at c2
      rw [g2] at hj; cases hj; exact c2


theorem app1r {W0 w : World} {base : Nat} {v : Value} {cs : List (Int × Int)} (p q : Int) (h : OwnC w base 82 v cs) (hB : Below base W0 w) (hb : base ≤ w.heap.size) (hl : cs.length ≤ 100000) :
    ∃ v' w', (Builtin.append_ #[69, 69] 69 #[v, .slice (some ⟨w.heap.size, 0, none⟩) 1 1]).run Try.prog (w.alloc (.cells #[.int .i64 p, .int .i64 q] 82)) = .ok v' w' ∧ OwnC w' base 82 v' (cs ++ [(p, q)]) ∧ Below base W0 w' := by
  have hs : SrcC (w.alloc (.cells #[.int .i64 p, .int .i64 q] 82)) (.slice (some ⟨w.heap.size, 0, none⟩) 1 1) [(p, q)] :=
    .inr ⟨w.heap.size, 0, 1, rfl, by simp, by simp [maxLen], by simp, fun j hj => by
      obtain rfl : j = 0 := by simpa using hj
      exact ⟨cells_cell (World.alloc_heap_new w _) 0, cells_cell (World.alloc_heap_new w _) 1⟩⟩
  have ho := h.alloc (.cells #[.int .i64 p, .int .i64 q] 82)
  have hB1 := hB.alloc hb (.cells #[.int .i64 p, .int .i64 q] 82)
  obtain ⟨v', w', hr, ho', hg, -⟩ := append_r ho (by simp; omega) hs (by simp; omega)
  exact ⟨v', w', hr, ho', ho.grown hB1 (by simp; omega) hg⟩

set_option maxRecDepth 100000 in
set_option maxHeartbeats 1000000 in
theorem theirs_any (v : Value) (cs : List (Int × Int)) (w : World) (hs : SrcC w v cs) (hlen : cs.length ≤ 4096) : Calls Try.prog 32 #[v] w fun e w' => ∃ v', e = .returned v' ∧ OwnC w' w.heap.size 82 v' cs ∧ Below w.heap.size w w' := by
  obtain ⟨a, c, rfl⟩ := hs.shape
  have HS := Hd.mk hs
  clear hs
  go_enter Try.func32, Try.ntmps32
  go_wp2_with fail
  go_loopw [3, 8] (fun v i W => ∃ k : Nat, k ≤ cs.length ∧ i = .int .i64 k ∧ OwnC W w.heap.size 82 v (cs.take k) ∧ Below w.heap.size w W) (fun _ i _ => cs.length - (intOf i).toNat)
  case atStart => exact ⟨0, by omega, rfl, OwnC.nil _ _ _, Below.refl _ _⟩
  case round =>
    obtain ⟨k, hk, rfl, ho, hB⟩ := hrel
    by_cases hlt : k < cs.length
    · obtain ⟨b, off, rfl, hb, hc1, hc2⟩ := (HS.out.below hB).at k hlt
      have HT : Hd (cs.take k ++ [cs[k]] = cs.take (k + 1)) := ⟨(List.take_succ_eq_append_getElem hlt).symm⟩
      obtain ⟨q, hq⟩ : ∃ q, cs[k].1 = q := ⟨_, rfl⟩
      obtain ⟨m, hm⟩ : ∃ m, cs[k].2 = m := ⟨_, rfl⟩
      have ht : cs.take k ++ [(q, m)] = cs.take (k + 1) := by rw [← HT.out, ← hq, ← hm]
      rw [hq] at hc1
      rw [hm] at hc2
      obtain ⟨v', w', hr, ho', hB'⟩ := app1r q m (ho.alloc (.cells #[.int .i64 q, .int .i64 m] 32)) (hB.alloc hB.size (.cells #[.int .i64 q, .int .i64 m] 32)) (by have := hB.size; simp; omega) (by rw [List.length_take]; omega)
      rw [ht] at ho'
      rw [World.size_alloc] at hr
      have HO := Hd.mk ho'
      have i0 : (0 : Int) ≤ (k : Int) := by omega
      have i1 : (k : Int) < (cs.length : Int) := by omega
      clear hq hm ht ho ho' HT
      go_wp2_with (at_builtin; refine wpList_append_run rfl _ _ _ rfl rfl rfl hr ?_; clear hr)
      go_roundw
      case rel => exact ⟨k + 1, by omega, by go_num, HO.out, hB'⟩
      case measure => simp [intOf]; omega
    · obtain rfl : k = cs.length := by omega
      rw [List.take_length] at ho
      have HO := Hd.mk ho
      clear ho
      go_wp2_with fail
      go_ret
      exact ⟨_, rfl, HO.out, hB⟩
theorem guard82 : Try.prog.eqGuardType Try.prog.depth 82 = false := by kernel_rfl
set_option maxRecDepth 100000 in
set_option maxHeartbeats 400000 in
theorem requal_any (v1 v2 : Value) (cs ds : List (Int × Int)) (w : World) (h1 : SrcC w v1 cs) (h2 : SrcC w v2 ds) : Calls Try.prog 41 #[v1, v2] w fun e w' => e = .returned (.bool (decide (cs = ds))) ∧ Below w.heap.size w w' := by
  have b1 := h1.small
  have b2 := h2.small
  obtain ⟨a1, c1, rfl⟩ := h1.shape
  obtain ⟨a2, c2, rfl⟩ := h2.shape
  have H1 := Hd.mk h1
  have H2 := Hd.mk h2
  clear h1 h2
  by_cases hl : cs.length = ds.length
  · have HL := Hd.mk hl
    rw [← hl]
    rw [← hl] at H2 b2
    clear hl b2
    go_enter Try.func41, Try.ntmps41
    go_wp2_with fail
    go_loopw [13] (fun i W => ∃ k : Nat, k ≤ cs.length ∧ i = .int .i64 k ∧ Hd (cs.take k = ds.take k) ∧ Below w.heap.size w W) (fun i _ => cs.length - (intOf i).toNat)
    case atStart => exact ⟨0, by omega, rfl, ⟨by simp⟩, Below.refl _ _⟩
    case round =>
      obtain ⟨k, hk, rfl, HK, hB⟩ := hrel
      by_cases hlt : k < cs.length
      · have hlt2 : k < ds.length := by have := HL.out; omega
        obtain ⟨x, offx, rfl, hx, hx1, hx2⟩ := (H1.out.below hB).at k hlt
        obtain ⟨y, offy, rfl, hy, hy1, hy2⟩ := (H2.out.below hB).at k hlt2
        have hnev := fun W => nev_rc cs[k].1 cs[k].2 ds[k].1 ds[k].2 W
        have hgd := guard82
        have HT : Hd ((cs[k].1 == ds[k].1 && cs[k].2 == ds[k].2) = decide (cs[k] = ds[k])) := ⟨by
          rw [Bool.eq_iff_iff, Bool.and_eq_true, beq_iff_eq, beq_iff_eq, decide_eq_true_eq, Prod.ext_iff]⟩
        rw [HT.out] at hnev
        obtain ⟨p, hp⟩ : ∃ p, cs[k].1 = p := ⟨_, rfl⟩
        obtain ⟨q, hq⟩ : ∃ p, cs[k].2 = p := ⟨_, rfl⟩
        obtain ⟨p', hp'⟩ : ∃ p, ds[k].1 = p := ⟨_, rfl⟩
        obtain ⟨q', hq'⟩ : ∃ p, ds[k].2 = p := ⟨_, rfl⟩
        rw [hp] at hx1 hnev
        rw [hq] at hx2 hnev
        rw [hp'] at hy1 hnev
        rw [hq'] at hy2 hnev
        clear hp hq hp' hq' HT
        by_cases he : cs[k] = ds[k]
        · rw [decide_eq_true he] at hnev
          have HN : Hd (cs.take (k + 1) = ds.take (k + 1)) := ⟨by rw [List.take_succ_eq_append_getElem hlt, List.take_succ_eq_append_getElem hlt2, HK.out, he]⟩
          clear he HK
          go_wp2_with fail
          go_quiet (fail)
          go_wp2_with fail
          go_roundw
          case rel => exact ⟨k + 1, by omega, by go_num, HN, below_drewN hB _⟩
          case measure => simp [intOf]; omega
        · rw [decide_eq_false he] at hnev
          have HN : Hd (decide (cs = ds) = false) := ⟨decide_eq_false fun h => he (by subst h; rfl)⟩
          clear he HK
          go_wp2_with fail
          go_quiet (fail)
          go_wp2_with fail
          go_ret
          exact ⟨by rw [HN.out]; rfl, below_drewN hB _⟩
      · obtain rfl : k = cs.length := by omega
        have HN : Hd (decide (cs = ds) = true) := ⟨decide_eq_true (by have := HK.out; rw [List.take_length, HL.out, List.take_length] at this; exact this)⟩
        clear HK
        go_wp2_with fail
        go_ret
        exact ⟨by rw [HN.out]; rfl, hB⟩
  · have HN : Hd (decide (cs = ds) = false) := ⟨decide_eq_false fun h => hl (by rw [h])⟩
    go_enter Try.func41, Try.ntmps41
    go_wp2_with fail
    go_ret
    exact ⟨by rw [HN.out]; rfl, Below.refl _ _⟩

set_option maxRecDepth 100000 in
set_option maxHeartbeats 1000000 in
theorem rback_no (v : Value) (cs : List (Int × Int)) (w : World) (hs : SrcC w v cs) (hc : ¬ chkV cs = 0) : Calls Try.prog 40 #[v] w fun e w' => e = .returned (.tuple #[.slice none 0 0, .int .i64 (chkV cs)]) ∧ Below w.heap.size w w' := by
  have HS := Hd.mk hs
  obtain ⟨n, hn⟩ : ∃ n, chkV cs = n := ⟨_, rfl⟩
  rw [hn] at hc ⊢
  have HN := Hd.mk hn
  have d1 : decide (n = 0) = false := decide_eq_false hc
  have d2 : (n == 0) = false := by simpa using hc
  clear hs hn
  go_enter Try.func40, Try.ntmps40
  go_wp2_with fail
  refine (rcheck_any v cs _ HS.out).mono ?_
  rintro e w1 ⟨rfl, hB⟩
  rw [HN.out]
  go_wp2_with fail
  go_ret2
  exact ⟨rfl, hB⟩

end Go.Proofs.Ytppfhcocmpmadaa
