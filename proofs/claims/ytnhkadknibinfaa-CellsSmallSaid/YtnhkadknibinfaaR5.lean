/- The reference's Changes; a lent list written over. -/
import Derived.Test.YtnhkadknibinfaaR4
namespace Go.Proofs.Ytnhkadknibinfaa
open Go.RowKit
set_option linter.unusedVariables false
set_option linter.unusedSimpArgs false

theorem info102 : ∃ i z, Try.prog.info? 102 = some i ∧ i.zero = some z ∧ z.cells.size = 4 ∧ i.size = 4 ∧ i.bytes = 32 :=
  ⟨_, _, rfl, rfl, by kernel_rfl, by kernel_rfl, by kernel_rfl⟩
theorem app1r {w : World} {base : Nat} {v : Value} {cs : List Ch} (c : Ch) {X : Nat} (h : OwnD w base 102 v cs) (hX : w.heap[X]? = some (.cells #[.int .i64 c.1, .int .i64 c.2.1, .int .i64 c.2.2.1, .int .i64 c.2.2.2] 102 (0, 0))) (hb : base ≤ w.heap.size) (hl : cs.length ≤ 100000) :
    ∃ v' w', (Builtin.append_ #[100, 100] 100 #[v, .slice (some ⟨X, 0, none⟩) 1 1]).run Try.prog w = .ok v' w' ∧ OwnD w' base 102 v' (cs ++ [c]) ∧ w.grownBy w' v.ownBlock := by
  obtain ⟨i, z, hi, hz, hzs, hsz, hby⟩ := info102
  obtain ⟨v', w', hr, ho, hg, _⟩ := run_append_own (P := Try.prog) w base 100 100 102 i z 4 32 Try.underlying100 hi hz hsz hby hzs (by decide) v cs.length (flat4 cs) h ⟨X, 0, none⟩ 1 1 (flat4 [c])
    (flat4_len [c]) (by
      intro j u hj
      rw [plain_add, Nat.zero_add, cells_cell hX]
      have e : flat4 [c] = [.int .i64 c.1, .int .i64 c.2.1, .int .i64 c.2.2.1, .int .i64 c.2.2.2] := by simp [flat4]
      rw [e] at hj
      simpa using hj) (flat4_one [c]) (by simp only [maxLen]; omega) (by omega) hb
  refine ⟨v', w', hr, ?_, hg⟩
  unfold OwnD
  rw [List.length_append, flat4_app]
  exact ho

/-- A cell of the reference's rows. -/
theorem PRows.cell {pr : Nat → Prop} {W : World} {v : Value} {a : List (List Int)} (h : PRows pr W v a) {r k : Nat} (hr : r < a.length) (hk : k < a[r].length) :
    ∃ b off c g og cg, v = .slice (some ⟨b, off, none⟩) a.length c ∧ W.cell? ⟨b, off + r, none⟩ = some (.slice (some ⟨g, og, none⟩) a[r].length cg) ∧ W.cell? ⟨g, og + k, none⟩ = some (.int .i64 a[r][k]) := by
  obtain ⟨a1, c1, rfl, _⟩ := h.shape
  obtain ⟨b, off, vk, rfl, _, _, cb, hel⟩ := h.at r hr
  obtain ⟨re, ce, rfl, _⟩ := hel.shape
  obtain ⟨g, og, vg, rfl, _, _, cg, hvg⟩ := PList.at hel k hk
  rw [hvg] at cg
  exact ⟨b, off, c1, g, og, ce, rfl, cb, cg⟩

theorem chg_len {s a : List (List Int)} (hc : ∀ l ∈ a, l.length ≤ 1024) (h16 : a.length ≤ 16) (i k : Nat) (hi : i ≤ a.length) (hk : k ≤ 1024) : (chgK s a i ++ rowC s a i k).length ≤ 100000 := by
  rw [List.length_append]
  have h1 := chgK_len (s := s) hc i hi
  have h2 := rowC_len s a i k
  omega

set_option maxRecDepth 100000 in
set_option maxHeartbeats 2000000 in
theorem rchanges_any {pr : Nat → Prop} {w : World} {v1 v2 : Value} {st : St} (h : RefAt pr w v1 v2 st) (hok : StOk st) :
    Calls Try.prog 48 #[.agg #[v1, v2]] w fun e w' => ∃ v, e = .returned v ∧ OwnD w' w.heap.size 102 v (changesV st) ∧ Below w.heap.size w w' := by
  obtain ⟨w1, hw1⟩ : ∃ W, w.alloc (.cells #[v1, v2] 86) = W := ⟨_, rfl⟩
  have hB1 : Below w.heap.size w w1 := by rw [← hw1]; exact (Below.refl _ _).alloc (Nat.le_refl _) _
  have hb1 : w1.heap[w.heap.size]? = some (.cells #[v1, v2] 86 (0, 0)) := by rw [← hw1]; exact heap_alloc_new _ _
  have hs1 : w.heap.size < w1.heap.size := by rw [← hw1]; simp
  obtain ⟨G, hG⟩ : ∃ g, w.heap.size = g := ⟨_, rfl⟩
  have HR := Hd.mk (h.below hB1)
  have HOK := Hd.mk hok
  have HBS := Hd.mk (base_shape hok)
  obtain ⟨a1, c1, rfl, e1, e2⟩ := h.now.shape
  obtain ⟨a2, c2, rfl, e3, e4⟩ := h.marks.shape
  obtain ⟨N, hN⟩ : ∃ n, st.now.length = n := ⟨_, rfl⟩
  obtain ⟨nm, hnm⟩ : ∃ n, st.marks.length = n := ⟨_, rfl⟩
  have HN := Hd.mk hN
  have HNM := Hd.mk hnm
  have HB1 := Hd.mk hB1
  have HX1 : Hd (w1.heap[G]? = some (.cells #[.slice a1 N c1, .slice a2 nm c2] 86 (0, 0))) := ⟨by rw [← hG, ← hN, ← hnm]; exact hb1⟩
  have HGS : Hd (G < w1.heap.size ∧ w.heap.size = G) := ⟨by omega, hG⟩
  obtain ⟨s, hs⟩ : ∃ s, baseV st = s := ⟨_, rfl⟩
  rw [hs] at HBS
  have HS := Hd.mk hs
  have HBL : Hd (w1.heap.size ≤ w1.heap.size) := ⟨Nat.le_refl _⟩
  have n16 : N ≤ 16 := by rw [← hN]; exact hok.owners
  have m64 : nm ≤ 64 := by rw [← hnm]; exact hok.many
  rw [hN] at hw1 ⊢
  rw [hnm] at hw1 ⊢
  clear h hok hB1 hb1 hs1 hN hnm e1 e3 hs
  go_enter Try.func48, Try.ntmps48
  go_wp2_with fail
  clear hw1 hG
  go_loopw [3, 4] (fun u i W => ∃ r : Nat, r ≤ N ∧ i = .int .i64 r ∧ ∃ v, v = u ∧ Hd (OwnD W w1.heap.size 102 v (chgK s st.now r)) ∧ Hd (Below w1.heap.size w1 W)) (fun _ i _ => N - (intOf i).toNat)
  case atStart => exact ⟨0, by omega, rfl, .slice none 0 0, rfl, ⟨by rw [chgK_zero]; exact OwnD.nil _ _ _⟩, ⟨Below.refl _ _⟩⟩
  case round =>
    obtain ⟨r, hr, rfl, v, rfl, HO, HB⟩ := hrel
    have hbx := (HB.out.block G HGS.out.1).trans HX1.out
    have b0 := cells_cell hbx 0
    simp only [List.getElem?_toArray, List.getElem?_cons_zero] at b0
    clear hbx
    by_cases hlt : r < N
    · have hra : r < st.now.length := by rw [HN.out]; exact hlt
      obtain ⟨n, hn⟩ : ∃ n, st.now[r].length = n := ⟨_, rfl⟩
      have HLN : Hd (∃ hi : r < st.now.length, st.now[r].length = n) := ⟨⟨hra, hn⟩⟩
      have n1024 : n ≤ 1024 := by rw [← hn]; exact HOK.out.cells _ (List.getElem_mem hra)
      have i0 : (0 : Int) ≤ (r : Int) := by omega
      have i1 : (r : Int) < (N : Int) := by omega
      have HLT := Hd.mk hlt
      have hO0 : OwnD wr w1.heap.size 102 v (chgK s st.now r ++ rowC s st.now r 0) := by rw [rowC_zero, List.append_nil]; exact HO.out
      have HO0 := Hd.mk hO0
      clear hra hn hlt hO0 HO hr
      go_wp2_with fail
      go_loopw [3, 5] (fun u i W => ∃ k : Nat, k ≤ n ∧ i = .int .i64 k ∧ ∃ v, v = u ∧ Hd (OwnD W w1.heap.size 102 v (chgK s st.now r ++ rowC s st.now r k)) ∧ Hd (Below w1.heap.size w1 W)) (fun _ i _ => n - (intOf i).toNat)
      case atStart => exact ⟨0, by omega, rfl, v, rfl, HO0, HB⟩
      case round =>
        obtain ⟨k, hk, rfl, v, rfl, HO, HB⟩ := hrel
        have hbx := (HB.out.block G HGS.out.1).trans HX1.out
        have b0 := cells_cell hbx 0
        have b1 := cells_cell hbx 1
        simp only [List.getElem?_toArray, List.getElem?_cons_zero, List.getElem?_cons_succ] at b0 b1
        clear hbx
        have hRW := HR.out.below HB.out
        obtain ⟨hra, hn⟩ := HLN.out
        obtain ⟨bb, off, vk, hva, _, _, cb, hel⟩ := hRW.now.at r hra
        obtain ⟨re, ce, rfl, f1, f2⟩ := hel.shape
        rw [hn] at cb f1
        subst hva
        by_cases hlk : k < n
        · have hkr : k < st.now[r].length := by rw [hn]; exact hlk
          obtain ⟨g, og, vg, rfl, _, _, cg, hvg⟩ := PList.at hel k hkr
          rw [hvg] at cg
          obtain ⟨x, hx⟩ : ∃ x, st.now[r][k] = x := ⟨_, rfl⟩
          have hx2 : at2 st.now ((r : Int) + 1, (k : Int)) = some x := by rw [at2_get hra hkr, hx]
          rw [hx] at cg
          simp only [iv] at cg
          have HX := Hd.mk hx2
          have k0 : (0 : Int) ≤ (k : Int) := by omega
          have k1 : (k : Int) < (n : Int) := by omega
          have wr1 : IntKind.i64.wrap ((r : Int) + 1) = (r : Int) + 1 := IntWalk.i64_in _ ⟨by omega, by omega⟩
          have HLK := Hd.mk hlk
          have hrow := rowC_succ s st.now r k
          have hlen := chg_len (s := s) HOK.out.cells HOK.out.owners r k (by omega) (by omega)
          have hsz := HB.out.size
          -- the base's cell
          obtain ⟨z, hz⟩ : ∃ z, at2 s ((r : Int) + 1, (k : Int)) = some z := by
            have h2 := at2_isSome HBS.out ((r : Int) + 1, (k : Int))
            rw [hx2] at h2
            exact Option.isSome_iff_exists.1 h2
          have hch : ch1 s st.now r k = if z = x then none else some ((r : Int) + 1, (k : Int), z, x) := by unfold ch1; rw [hz, hx2]
          rw [hch] at hrow
          have happ : ∀ c : Ch, ∃ v' w', (Builtin.append_ #[100, 100] 100 #[v, .slice (some ⟨wr.heap.size, 0, none⟩) 1 1]).run Try.prog (wr.alloc (.cells #[.int .i64 c.1, .int .i64 c.2.1, .int .i64 c.2.2.1, .int .i64 c.2.2.2] 102)) = .ok v' w' ∧ OwnD w' w1.heap.size 102 v' ((chgK s st.now r ++ rowC s st.now r k) ++ [c]) ∧ Below w1.heap.size w1 w' := by
            intro c
            have hoa := OwnD.alloc HO.out (.cells #[.int .i64 c.1, .int .i64 c.2.1, .int .i64 c.2.2.1, .int .i64 c.2.2.2] 102)
            obtain ⟨v', w', q1, q2, q3⟩ := app1r c hoa (heap_alloc_new _ _) (by simp; omega) hlen
            exact ⟨v', w', q1, q2, OwnD.grown hoa (HB.out.alloc hsz _) (by simp; omega) q3⟩
          rcases nm with _ | m
          · have hz0 : z = 0 := by
              have hbz : baseV st = zer st.now := by unfold baseV; rw [List.length_eq_zero_iff.1 HNM.out]; rfl
              rw [HS.out] at hbz
              rw [hbz] at hz
              have := at2_zer hx2
              rw [hz] at this
              exact Option.some.inj this
            subst hz0
            by_cases he : x = 0
            · rw [if_pos he.symm] at hrow
              have HON := Hd.mk (show OwnD wr w1.heap.size 102 v (chgK s st.now r ++ rowC s st.now r (k + 1)) by rw [hrow]; simpa using HO.out)
              have t1 : (x != 0) = false := by simp [he]
              have t2 : decide (x = 0) = true := by simp [he]
              clear hrow hlen hch hz hx2 hRW hel hn hvg hx hkr happ he hlk hra hsz
              go_wp2_with fail
              go_roundw
              case rel => exact ⟨k + 1, by have := HLK.out; omega, by go_num, v, rfl, HON, HB⟩
              case measure => have := HLK.out; simp [intOf]; omega
            · rw [if_neg (fun e => he e.symm)] at hrow
              obtain ⟨v', w', q1, q2, q3⟩ := happ ((r : Int) + 1, (k : Int), 0, x)
              have HON := Hd.mk (show OwnD w' w1.heap.size 102 v' (chgK s st.now r ++ rowC s st.now r (k + 1)) by rw [hrow, ← List.append_assoc]; exact q2)
              have HBN := Hd.mk q3
              have t1 : (x != 0) = true := by simp [he]
              have t2 : decide (x = 0) = false := by simp [he]
              dsimp only at q1
              clear hrow hlen hch hz hx2 hRW hel hn hvg hx hkr happ he hlk hra hsz q2 q3
              go_wp2_with (at_builtin; refine wpList_append_run rfl _ _ _ rfl rfl rfl q1 ?_; clear q1)
              go_roundw
              case rel => exact ⟨k + 1, by have := HLK.out; omega, by go_num, v', rfl, HON, HBN⟩
              case measure => have := HLK.out; simp [intOf]; omega
          · have hmm : m < st.marks.length := by rw [HNM.out]; omega
            have hsm : st.marks[m] = s := by
              rw [← HS.out]
              unfold baseV
              rw [List.getLast?_eq_getElem?, HNM.out, Nat.add_sub_cancel, List.getElem?_eq_getElem hmm]; rfl
            obtain ⟨bm, om, vm, hvm, _, _, cm, hmel⟩ := hRW.marks.at m hmm
            rw [hsm] at hmel
            obtain ⟨r0, k0', hr0, hk0', er, ex⟩ := at2_some hz
            simp only [Prod.mk.injEq] at er
            obtain rfl : r0 = r := by omega
            obtain rfl : k0' = k := by omega
            obtain ⟨bs, os, cs, gs, ogs, cgs, rfl, cs1, cs2⟩ := PRows.cell hmel hr0 hk0'
            rw [← ex] at cs2
            subst hvm
            obtain ⟨ns, hns⟩ : ∃ n, s.length = n := ⟨_, rfl⟩
            have hns2 : r0 < ns := by rw [← hns]; exact hr0
            obtain ⟨ls, hls⟩ : ∃ n, s[r0].length = n := ⟨_, rfl⟩
            have hls2 : k0' < ls := by rw [← hls]; exact hk0'
            rw [hls] at cs1
            rw [hns] at cm
            have u1 : (0 : Int) < ((m + 1 : Nat) : Int) := by omega
            have u2 : IntKind.i64.wrap (m : Int) = (m : Int) := IntWalk.i64_in _ ⟨by omega, by omega⟩
            have u3 : (m : Int) < (m : Int) + 1 := by omega
            have u4 : (r0 : Int) < (ns : Int) := by omega
            have u5 : (k0' : Int) < (ls : Int) := by omega
            have u6 : (0 : Int) ≤ (m : Int) := by omega
            by_cases he : z = x
            · rw [if_pos he] at hrow
              have HON := Hd.mk (show OwnD wr w1.heap.size 102 v (chgK s st.now r0 ++ rowC s st.now r0 (k0' + 1)) by rw [hrow]; simpa using HO.out)
              have t1 : (x != z) = false := by simp [he]
              have t2 : decide (x = z) = true := by simp [he]
              clear hrow hlen hch hz hx2 hRW hel hn hvg hx hkr happ he hlk hra hsz hmm hsm hmel hr0 hk0' er ex hns hls
              go_wp2_with fail
              go_roundw
              case rel => exact ⟨k0' + 1, by have := HLK.out; omega, by go_num, v, rfl, HON, HB⟩
              case measure => have := HLK.out; simp [intOf]; omega
            · rw [if_neg he] at hrow
              obtain ⟨v', w', q1, q2, q3⟩ := happ ((r0 : Int) + 1, (k0' : Int), z, x)
              have HON := Hd.mk (show OwnD w' w1.heap.size 102 v' (chgK s st.now r0 ++ rowC s st.now r0 (k0' + 1)) by rw [hrow, ← List.append_assoc]; exact q2)
              have HBN := Hd.mk q3
              have t1 : (x != z) = true := by simp; exact fun e => he e.symm
              have t2 : decide (x = z) = false := decide_eq_false fun e => he e.symm
              dsimp only at q1
              clear hrow hlen hch hz hx2 hRW hel hn hvg hx hkr happ he hlk hra hsz q2 q3 hmm hsm hmel hr0 hk0' er ex hns hls
              go_wp2_with (at_builtin; refine wpList_append_run rfl _ _ _ rfl rfl rfl q1 ?_; clear q1)
              go_roundw
              case rel => exact ⟨k0' + 1, by have := HLK.out; omega, by go_num, v', rfl, HON, HBN⟩
              case measure => have := HLK.out; simp [intOf]; omega
        · obtain rfl : k = n := by omega
          have HON := Hd.mk (show OwnD wr w1.heap.size 102 v (chgK s st.now (r + 1)) by rw [chgK_succ s st.now r hra, hn]; exact HO.out)
          have wr1 : IntKind.i64.wrap ((r : Int) + 1) = (r : Int) + 1 := IntWalk.i64_in _ ⟨by omega, by omega⟩
          clear hlk hRW hel hra hn HO
          go_wp2_with fail
          go_roundw
          case rel => exact ⟨r + 1, by have := HLT.out; omega, by go_num, v, rfl, HON, HB⟩
          case measure => have := HLT.out; simp [intOf]; omega
    · obtain rfl : r = N := by omega
      have HOF := Hd.mk (show OwnD wr w.heap.size 102 v (changesV st) by
        have h1 := HO.out
        have : chgK s st.now r = changesV st := by unfold changesV chgV; rw [HS.out, HN.out]
        rw [this] at h1
        exact OwnD.lower h1 (by have := HGS.out; omega))
      have HBF := Hd.mk (HB1.out.trans (HB.out.mono (by have := HGS.out; omega)))
      clear hlt
      go_wp2_with fail
      go_ret
      exact ⟨v, rfl, HOF.out, HBF.out⟩
end Go.Proofs.Ytnhkadknibinfaa
