/- IsSorted of a row in order; plain facts of times turned round. -/
import Derived.Test.YtlblpmadehikgaaE2
import Derived.Test.YtlblpmadehikgaaD4
import Derived.Deep.RegionHeld3
namespace Go.Proofs.Ytlblpmadehikgaa
open Go.RowKit Go.Shelf
set_option linter.unusedVariables false


/-- The first k of the times, turned round by b. -/
def rotV (T : List Int) (b k : Nat) : List Int := (List.range k).map (fun i => T.getD ((i + b) % T.length) 0)
theorem rotV_succ (T : List Int) (b k : Nat) : rotV T b (k + 1) = rotV T b k ++ [T.getD ((k + b) % T.length) 0] := by rw [rotV, List.range_succ, List.map_append]; rfl
theorem rotV_len (T : List Int) (b k : Nat) : (rotV T b k).length = k := by rw [rotV, List.length_map, List.length_range]
theorem rotV_mem {T : List Int} {b : Nat} {t : Int} : t ∈ rotV T b T.length ↔ t ∈ T := by
  rw [rotV, List.mem_map]
  constructor
  · rintro ⟨i, hi, rfl⟩
    rw [List.mem_range] at hi
    have h := Nat.mod_lt (i + b) (by omega : 0 < T.length)
    rw [List.getD_eq_getElem?_getD, List.getElem?_eq_getElem h]
    exact List.getElem_mem h
  · intro ht
    obtain ⟨p, hp, rfl⟩ := List.mem_iff_getElem.1 ht
    have hn : 0 < T.length := by omega
    have hb := Nat.mod_lt b hn
    refine ⟨(p + (T.length - b % T.length)) % T.length, List.mem_range.2 (Nat.mod_lt _ hn), ?_⟩
    have e : ((p + (T.length - b % T.length)) % T.length + b) % T.length = p := by
      have h1 := Nat.div_add_mod b T.length
      have h2 : p + (T.length - b % T.length) + b = p + T.length * (1 + b / T.length) := by rw [Nat.mul_add, Nat.mul_one]; omega
      rw [Nat.mod_add_mod, h2, Nat.add_mul_mod_self_left, Nat.mod_eq_of_lt hp]
    rw [e, List.getD_eq_getElem?_getD, List.getElem?_eq_getElem hp]; rfl
theorem winsV_set {A H : Int} {T U : List Int} (hA : 1 ≤ A) (hT : ∀ t ∈ T, timeB t = true) (hm : ∀ t, t ∈ U ↔ t ∈ T) : winsV A H U = winsV A H T := by
  rw [winsV_winB hT, winsV_winB (fun t ht => hT t ((hm t).1 ht))]
  exact winB_set hA (sort_pw U) (sort_pw T) (fun t => by rw [← (sort_perm U).mem_iff, ← (sort_perm T).mem_iff, hm]) _ _ (Nat.le_refl _)
theorem inL_pre (l : List Int) (e : Int) (k : Nat) : ∀ n, k ≤ n → ∃ r, inL l e n = inL l e k ++ r
  | 0, h => ⟨[], by obtain rfl : k = 0 := by omega
                    simp⟩
  | n + 1, h => by
    by_cases hk : k = n + 1
    · subst hk; exact ⟨[], by simp⟩
    · obtain ⟨r, hr⟩ := inL_pre l e k n (by omega)
      by_cases hx : l.getD n 0 < e
      · exact ⟨r ++ [(n : Int)], by rw [inL_yes hx, hr, List.append_assoc]⟩
      · exact ⟨r, by rw [inL_no hx, hr]⟩
theorem inL_at {l : List Int} {e : Int} {i n : Nat} (hi : i < n) (hx : l.getD i 0 < e) : ∃ h : (inL l e i).length < (inL l e n).length, (inL l e n)[(inL l e i).length] = (i : Int) := by
  obtain ⟨r, hr⟩ := inL_pre l e (i + 1) n (by omega)
  rw [inL_yes hx] at hr
  refine ⟨by rw [hr]; simp, ?_⟩
  simp only [hr]
  rw [List.getElem_append_left (by simp), List.getElem_append_right (Nat.le_refl _)]
  simp
theorem inL_sorted (l : List Int) (e : Int) (n : Nat) : (inL l e n).Pairwise (· ≤ ·) := by
  rw [inL, List.pairwise_map]
  refine List.Pairwise.imp ?_ ((List.pairwise_lt_range (n := n)).filter _)
  intro a b hab; omega
theorem s2_keep {W0 W W' : World} {p q : Addr} {a b : Value} (h : W.cell? p = some a ∧ W.cell? q = some b ∧ Below W0.heap.size W0 W) (hB : Below W.heap.size W W') :
    W'.cell? p = some a ∧ W'.cell? q = some b ∧ Below W0.heap.size W0 W' := s9_keep h hB

set_option maxRecDepth 100000 in
set_option maxHeartbeats 1000000 in
theorem sorted_any (v : Value) (l : List Int) (w : World) (hs : SrcI w v l) (hp : l.Pairwise (· ≤ ·)) (hl : l.length ≤ 1000000) : Calls Try.prog 22 #[v] w fun e w' => e = .returned (.bool true) ∧ Below w.heap.size w w' := by
  have HS := Hd.mk hs
  have HP := Hd.mk hp
  obtain ⟨a, c, rfl⟩ := hs.shape
  clear hs hp
  have wl : IntKind.i64.wrap ((l.length : Int) - 1) = (l.length : Int) - 1 := IntWalk.i64_in _ ⟨by omega, by omega⟩
  go_enter Try.func22, Try.ntmps22
  go_wp2_with fail
  go_loopw [3] (fun i W => ∃ z : Int, -1 ≤ z ∧ z < l.length ∧ i = .int .i64 z ∧ Below w.heap.size w W) (fun i _ => (intOf i).toNat)
  case atStart => exact ⟨(l.length : Int) - 1, by omega, by omega, rfl, Below.refl _ _⟩
  case round =>
    obtain ⟨z, hz0, hz1, rfl, hB⟩ := hrel
    by_cases hz : 0 < z
    · obtain ⟨k, rfl⟩ : ∃ k : Nat, z = (k : Int) + 1 := ⟨(z - 1).toNat, by omega⟩
      have hk : k + 1 < l.length := by omega
      obtain ⟨b, off, rfl, hb, hx⟩ := (HS.out.below hB).at (k + 1) hk
      obtain ⟨b', off', hbb, -, hy⟩ := (HS.out.below hB).at k (by omega)
      obtain ⟨rfl, rfl⟩ : b = b' ∧ off = off' := by simpa using hbb
      have hle := List.pairwise_iff_getElem.1 HP.out k (k + 1) (by omega) hk (by omega)
      obtain ⟨x, hX⟩ : ∃ x, l[k + 1] = x := ⟨_, rfl⟩
      obtain ⟨y, hY⟩ : ∃ x, l[k] = x := ⟨_, rfl⟩
      rw [hX] at hx hle
      rw [hY] at hy hle
      have hd : decide (x < y) = false := decide_eq_false (by omega)
      have k0 : (0 : Int) ≤ (k : Int) := by omega
      have k1 : (k : Int) < (l.length : Int) := by omega
      have k2 : (k : Int) + 1 < (l.length : Int) := by omega
      have k3 : (0 : Int) ≤ (k : Int) + 1 := by omega
      have wk1 : IntKind.i64.wrap (k : Int) = (k : Int) := IntWalk.i64_in _ ⟨by omega, by omega⟩
      have HB := Hd.mk hB
      clear hbb hb hX hY hB
      go_upto_region 4 with fail
      have hS0 : wr.cell? ⟨b, off + (k + 1), none⟩ = some (.int .i64 x) ∧ wr.cell? ⟨b, off + k, none⟩ = some (.int .i64 y) ∧ Below wr.heap.size wr wr := ⟨hx, hy, Below.refl _ _⟩
      refine wp_region_held_drew (S := fun W => W.cell? ⟨b, off + (k + 1), none⟩ = some (.int .i64 x) ∧ W.cell? ⟨b, off + k, none⟩ = some (.int .i64 y) ∧ Below wr.heap.size wr W) (by kernel_rfl) (s2_keep hS0 (bl_drew (Below.refl _ _))) (fun hS_ => ?_)
      try dsimp only at hS_
      refine takeW 0 ?_ rfl (by kernel_rfl) (by kernel_rfl) (by kernel_rfl) (fun _ _ _ h => h) (by rfl) ?_ hS_ ?_
      rotate_left
      · intro w hSw
        try dsimp only at hSw
        go_simp
        with_reducible rfl
      try simp only [Act.put, List.setIfInBounds_toArray, List.set_cons_zero, List.set_cons_succ]
      refine takeW 1 ?_ rfl (by kernel_rfl) (by kernel_rfl) (by kernel_rfl) (fun _ _ _ h => h) (by rfl) ?_ hS_ ?_
      rotate_left
      · intro w hSw
        try dsimp only at hSw
        go_simp
        with_reducible rfl
      try simp only [Act.put, List.setIfInBounds_toArray, List.set_cons_zero, List.set_cons_succ]
      refine takeW 2 ?_ rfl (by kernel_rfl) (by kernel_rfl) (by kernel_rfl) (fun _ _ _ h => h) (by rfl) ?_ hS_ ?_
      rotate_left
      · intro w hSw
        try dsimp only at hSw
        go_simp
        with_reducible rfl
      try simp only [Act.put, List.setIfInBounds_toArray, List.set_cons_zero, List.set_cons_succ]
      refine takeW 3 ?_ rfl (by kernel_rfl) (by kernel_rfl) (by kernel_rfl) (fun _ _ _ h => h) (by rfl) ?_ hS_ ?_
      rotate_left
      · intro w hSw
        try dsimp only at hSw
        go_simp
        with_reducible rfl
      try simp only [Act.put, List.setIfInBounds_toArray, List.set_cons_zero, List.set_cons_succ]
      refine takeW 4 ?_ rfl (by kernel_rfl) (by kernel_rfl) (by kernel_rfl) (fun _ _ _ h => h) (by rfl) ?_ hS_ ?_
      rotate_left
      · intro w hSw
        try dsimp only at hSw
        go_simp
        with_reducible rfl
      try simp only [Act.put, List.setIfInBounds_toArray, List.set_cons_zero, List.set_cons_succ]
      refine takeW 5 ?_ rfl (by kernel_rfl) (by kernel_rfl) (by kernel_rfl) (fun _ _ _ h => h) (by rfl) ?_ hS_ ?_
      rotate_left
      · intro w hSw
        try dsimp only at hSw
        go_simp
        with_reducible rfl
      try simp only [Act.put, List.setIfInBounds_toArray, List.set_cons_zero, List.set_cons_succ]
      refine takeW 6 ?_ rfl (by kernel_rfl) (by kernel_rfl) (by kernel_rfl) (fun _ _ _ h => h) (by rfl) ?_ hS_ ?_
      rotate_left
      · intro w hSw
        try dsimp only at hSw
        go_simp
        with_reducible rfl
      try simp only [Act.put, List.setIfInBounds_toArray, List.set_cons_zero, List.set_cons_succ]
      refine takeW 7 ?_ rfl (by kernel_rfl) (by kernel_rfl) (by kernel_rfl) (fun _ _ _ h => h) (by rfl) ?_ hS_ ?_
      rotate_left
      · intro w hSw
        try dsimp only at hSw
        go_simp
        with_reducible rfl
      try simp only [Act.put, List.setIfInBounds_toArray, List.set_cons_zero, List.set_cons_succ]
      refine takeW 8 ?_ rfl (by kernel_rfl) (by kernel_rfl) (by kernel_rfl) (fun _ _ _ h => h) (by rfl) ?_ hS_ ?_
      rotate_left
      · intro w hSw
        try dsimp only at hSw
        go_simp
        with_reducible rfl
      try simp only [Act.put, List.setIfInBounds_toArray, List.set_cons_zero, List.set_cons_succ]
      refine wpAnyH_ready (rs := [9]) (by kernel_rfl) (by simp) (readyL rfl (fun K hK => ?_) AllReadyH.nil)
      go_simp
      refine (less_any _ _ _).mono ?_
      rintro e wk ⟨rfl, rfl⟩
      have hS2_ : wr.drew.cell? ⟨b, off + (k + 1), none⟩ = some (.int .i64 x) ∧ wr.drew.cell? ⟨b, off + k, none⟩ = some (.int .i64 y) ∧ Below wr.heap.size wr wr.drew := hS_
      refine hK.out _ _ hS2_ (fun _ => ?_)
      clear hK K hS_
      have hS_ := hS2_
      clear hS2_
      try simp only [Act.put, List.setIfInBounds_toArray, List.set_cons_zero, List.set_cons_succ]
      refine wpAnyH_done (by kernel_rfl) ?_ _
      have HB2 := Hd.mk (HB.out.trans (hS_.2.2.mono HB.out.size))
      clear hS_ hS0
      go_wp2_with fail
      go_roundw
      case rel => exact ⟨(k : Int), by omega, by omega, by go_num, HB2.out⟩
      case measure => simp [intOf] <;> omega
    · go_wp2_with fail
      go_ret
      exact ⟨rfl, hB⟩
end Go.Proofs.Ytlblpmadehikgaa
