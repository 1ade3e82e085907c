/- Walk of the law MixJoins. -/
import Derived.Test.YtdgmbghbjpmiiaaOwn
import Derived.Test.YtdgmbghbjpmiiaaR5
import Derived.Test.YtdgmbghbjpmiiaaL1
namespace Go.Proofs.Ytdgmbghbjpmiiaa
open Go.RowKit

theorem join_src (v : Value) (xs : List (BitVec 64)) (w : World) (h : SrcE u w v xs) (hl : xs.length ≤ 4611686018427387904) :
    Calls Try.prog 14 #[v] w fun e w' => e = .returned (u (joinV xs)) ∧ w = w' := by
  rcases h.cases with ⟨rfl, a, c, rfl⟩ | ⟨b, off, c, rfl, _, _, _, _, hcell⟩
  · exact join_nil a c w
  · exact join_some b off c xs w hl hcell

theorem last_src (x : BitVec 64) (v : Value) (xs : List (BitVec 64)) (w : World) (h : SrcE u w v xs) (hl : xs.length ≤ 4611686018427387904) :
    Calls Try.prog 15 #[u x, v] w fun e w' => e = .returned (u (lastV x xs)) ∧ Below w.heap.size w w' := by
  rcases h.cases with ⟨rfl, a, c, rfl⟩ | ⟨b, off, c, rfl, _, _, _, hb, hcell⟩
  · exact last_nil x a c w
  · exact last_some x b off c xs w hl hb hcell

theorem refJoin_src (v : Value) (xs : List (BitVec 64)) (w : World) (h : SrcE u w v xs) (hl : xs.length ≤ 4611686018427387904) :
    Calls Try.prog 16 #[v] w fun e w' => e = .returned (u (joinV xs)) ∧ Below w.heap.size w w' := by
  rcases h.cases with ⟨rfl, a, c, rfl⟩ | ⟨b, off, c, rfl, _, hc, _, _, hcell⟩
  · exact (refJoin_empty a c w).mono fun e w' ⟨he, hw⟩ => ⟨he, by rw [hw]; exact Below.refl _ _⟩
  · exact (refJoin_any b off c xs.length xs w rfl hc hl hcell).mono fun e w' ⟨he, m, hw⟩ => ⟨he, by rw [hw]; exact below_drewN (Below.refl _ _) m⟩

theorem last_join (x : BitVec 64) (xs : List (BitVec 64)) : joinV (xs ++ [lastV x xs]) = x := by
  unfold joinV
  rw [List.foldl_append]
  show mixV (11400714819323198485#64 + lastV x xs + joinV xs * 11400714819323198485#64) = x
  have : 11400714819323198485#64 + lastV x xs + joinV xs * 11400714819323198485#64 = unmixV x := by unfold lastV; grind
  rw [this, mix_unmix]

theorem u_one (x : BitVec 64) : (u x).oneCell' = true := rfl
theorem info22 : (Try.prog.info? 22).map (fun i => (i.zero, i.size, i.bytes)) = some (some (.int .u64 0), 1, 8) := by kernel_rfl

/-- append onto a []uint64 of the call's own. -/
theorem append_u {w : World} {base : Nat} {v sv : Value} {xs ys : List (BitVec 64)} (h : OwnE u w base 22 v xs) (hbase : base ≤ w.heap.size) (hs : SrcE u w sv ys) (hl : xs.length + ys.length ≤ 1000000) :
    ∃ v' w', (Builtin.append_ #[25, 25] 25 #[v, sv]).run Try.prog w = .ok v' w' ∧ OwnE u w' base 22 v' (xs ++ ys) ∧ w.grownBy w' v.ownBlock := by
  obtain ⟨i0, hi, hz0, hz1, hz2⟩ := info_parts info22
  exact h.append 25 25 i0 (.int .u64 0) 8 Try.underlying25 hi hz0 hz1 hz2 rfl u_one hbase sv ys hs (by simp only [maxLen]; omega) (by omega)

theorem append_new {w : World} {sv : Value} {ys : List (BitVec 64)} (hs : SrcE u w sv ys) (hl : ys.length ≤ 1000000) :
    ∃ v' w', (Builtin.append_ #[25, 25] 25 #[.slice (some ⟨w.heap.size, 0, none⟩) 0 0, sv]).run Try.prog (w.alloc (.cells #[] 22)) = .ok v' w' ∧ OwnE u w' w.heap.size 22 v' ys ∧ Below w.heap.size w w' := by
  have hB := (Below.refl w.heap.size w).alloc (Nat.le_refl _) (.cells #[] 22)
  obtain ⟨v', w', hr, ho, hg⟩ := append_u (OwnE.made u w w.heap.size 22 (Nat.le_refl _)) (by simp) (hs.below hB) (by simpa using hl)
  exact ⟨v', w', hr, by simpa using ho, (OwnE.made u w w.heap.size 22 (Nat.le_refl _)).grown hB (by simp) hg⟩

set_option maxHeartbeats 1000000 in
theorem mixJoins_walk (x : BitVec 64) (a : Option Addr) (n c : Nat) (xs : List (BitVec 64)) (w : World) (hs : SrcE u w (.slice a n c) xs) (hn : xs.length = n) :
    Calls Try.prog 4 #[u x, .slice a n c] w fun e w' => e = .returned (.bool true) ∧ Below w.heap.size w w' := by
  have hbig : n ≤ 9223372036854775807 := by have := hs.small; omega
  by_cases h40 : n ≤ 40
  · obtain ⟨v1, w1, hr1, ho1, hB1⟩ := append_new hs (by omega)
    have hB1s := hs.below hB1
    have hs1 := ho1.src
    obtain ⟨a1, c1, rfl⟩ := hs1.shape
    have HS1 := Hd.mk hs1
    have HN := Hd.mk hn
    have hlen : xs.length ≤ 40 := by omega
    subst hn
    clear hs hs1
    go_enter Try.func4, Try.ntmps4
    go_wp2_with (at_builtin; refine wpList_append_run rfl _ _ _ rfl rfl rfl hr1 ?_; clear hr1)
    refine (join_src _ xs _ HS1.out (by omega)).mono ?_
    rintro e w2 ⟨rfl, rfl⟩
    go_wp2_with fail
    refine (last_src _ _ xs _ HS1.out (by omega)).mono ?_
    rintro e w2 ⟨rfl, hb2⟩
    have hB2 := hB1.trans (hb2.mono hB1.size)
    have ho2 := ho1.below hb2
    have hs2 := hB1s.below hb2
    clear hb2 hB1 ho1 hB1s HS1
    go_wp2_with fail
    go_loopw [23] (fun i W => ∃ k : Nat, k ≤ xs.length ∧ i = .int .i64 k ∧ OwnE u W w.heap.size 22 (.slice a1 xs.length c1) xs ∧ SrcE u W (.slice a xs.length c) xs ∧ Below w.heap.size w W) (fun i _ => xs.length - (intOf i).toNat)
    case atStart => exact ⟨0, by omega, rfl, ho2, hs2, hB2⟩
    case round =>
      obtain ⟨k, hk, rfl, ho, hs, hB⟩ := hrel
      by_cases hlt : k < xs.length
      · obtain ⟨b, off, rfl, _, hcb⟩ := hs.at k hlt
        obtain ⟨g, o2, rfl, _, hcg⟩ := ho.src.at k hlt
        go_wp2_with fail
        go_quiet (fail)
        go_wp2_with fail
        go_roundw
        case rel => exact ⟨k + 1, by omega, by go_num, ho.below ⟨rfl, rfl, rfl, Nat.le_refl _, fun _ _ => rfl⟩, hs.below ⟨rfl, rfl, rfl, Nat.le_refl _, fun _ _ => rfl⟩, below_drewN hB _⟩
        case measure => simp [intOf]; omega
      · go_wp2_with fail
        refine (refJoin_src _ xs _ hs (by omega)).mono ?_
        rintro e w3 ⟨rfl, hb3⟩
        have ho3 := ho.below hb3
        have hB3 := hB.trans (hb3.mono hB.size)
        clear hs ho hB hb3
        have hsrc : SrcE u (w3.alloc (.cells #[u (lastV x xs)] 22)) (.slice (some ⟨w3.heap.size, 0, none⟩) 1 1) [lastV x xs] :=
          .inr ⟨⟨w3.heap.size, 0, none⟩, 1, rfl, by simp, by simp [maxLen], fun j hj => by
            obtain rfl : j = 0 := by simp at hj; exact hj
            rw [plain_add]; exact cells_cell (World.alloc_heap_new w3 _) 0⟩
        obtain ⟨v4, w4, hr4, ho4, hg4⟩ := append_u (ho3.alloc (.cells #[u (lastV x xs)] 22)) (by have := hB3.size; simp; omega) hsrc (by simp; omega)
        have hB4 : Below w.heap.size w w4 := (ho3.alloc (.cells #[u (lastV x xs)] 22)).grown (hB3.alloc hB3.size _) (by have := hB3.size; simp; omega) hg4
        have hs4 := ho4.src
        obtain ⟨a4, c4, rfl⟩ := hs4.shape
        rw [show (xs ++ [lastV x xs]).length = xs.length + 1 from by simp] at hs4 hr4
        have HS4 := Hd.mk hs4
        clear hs4 ho4 hg4 hB3 ho3 hsrc
        go_wp2_with (at_builtin; refine wpList_append_run rfl _ _ _ rfl rfl rfl hr4 ?_; clear hr4)
        refine (refJoin_src _ _ _ HS4.out (by simp; omega)).mono ?_
        rintro e w5 ⟨rfl, hb5⟩
        rw [last_join]
        have hB5 := hB4.trans (hb5.mono hB4.size)
        clear hB4 HS4 hb5
        go_wp2_with fail
        refine (awake_any _).mono ?_
        rintro e w6 ⟨rfl, hb6⟩
        go_wp2_with fail
        go_ret
        exact ⟨rfl, hB5.trans (hb6.mono hB5.size)⟩
  · go_enter Try.func4, Try.ntmps4
    go_wp2_with fail
    refine (awake_any _).mono ?_
    rintro e w2 ⟨rfl, hb2⟩
    go_wp2_with fail
    go_ret
    exact ⟨rfl, hb2⟩
end Go.Proofs.Ytdgmbghbjpmiiaa
