/- Walk of the law WordWrong. -/
import Derived.Test.YtbmommomhepfpaaW9
import Derived.Test.YtbmommomhepfpaaApp
namespace Go.Proofs.Ytbmommomhepfpaa
open Go.RowKit
set_option linter.unusedVariables false

theorem appE_bad {op : Int} (b : BitVec 64) (h : op < 1 ∨ 17 < op) : appE op b = 130 := by rw [appE, if_pos h]
theorem foldV_bad {op : Int} (l : List (BitVec 64)) (h : op < 1 ∨ 17 < op) : foldV op l = (0#64, 130) := by rw [foldV.eq_def, if_pos h]
theorem NameV_bad {op : Int} (h : 17 < op) : NameV op = ⟨#[]⟩ := by rw [NameV, if_pos h]

theorem appE_ok (op : Int) (y : BitVec 64) (h1 : 1 ≤ op) (h2 : op ≤ 17) (hy : ¬ y = 0#64) : appE op y = 0 := by rw [appE, if_neg (by omega), if_neg (fun h => hy h.1)]
theorem appE_ok2 (op : Int) (y : BitVec 64) (h1 : 1 ≤ op) (h2 : op ≤ 17) (hd : ¬ (4 ≤ op ∧ op ≤ 6)) : appE op y = 0 := by rw [appE, if_neg (by omega), if_neg (fun h => hd h.2)]
theorem foldW_ok (op : Int) (h1 : 1 ≤ op) (h2 : op ≤ 17) (hd : ¬ (4 ≤ op ∧ op ≤ 6)) (l : List (BitVec 64)) : ∀ x, (foldW op l x).2 = 0 := by
  induction l with
  | nil => intro x; rfl
  | cons y l ih => intro x; rw [foldW, if_pos (appE_ok2 op y h1 h2 hd)]; exact ih _
theorem foldV_ok (op : Int) (h1 : 1 ≤ op) (h2 : op ≤ 17) (hd : ¬ (4 ≤ op ∧ op ≤ 6)) (l : List (BitVec 64)) (hl : l ≠ []) : (foldV op l).2 = 0 := by
  rw [foldV.eq_def, if_neg (by omega)]
  cases l with
  | nil => exact absurd rfl hl
  | cons x l => exact foldW_ok op h1 h2 hd l x
theorem own2 (w : World) (a b : BitVec 64) (base : Nat) (hb : base ≤ w.heap.size) : OwnE s (w.alloc (.cells #[s a, s b] 2)) base 2 (.slice (some ⟨w.heap.size, 0, none⟩) 2 2) [a, b] :=
  World.ownsRow_lit w #[s a, s b] 2 hb (by simp [maxLen]) rfl
theorem smax_ne (b : BitVec 64) : ¬ smaxV b 1#64 = 0#64 := by
  unfold smaxV
  split
  · decide
  · rename_i h; intro e; rw [e] at h; exact h (by decide)
@[go_sem] theorem run_max_s_one (P : Program) (w : World) (ts : Array TypeId) (t : TypeId) (x : BitVec 64) : (Builtin.max_ ts t #[s x, .int .i64 1]).run P w = .ok (s (smaxV x 1#64)) w := run_max_s w ts t x 1#64

set_option maxRecDepth 100000 in
set_option maxHeartbeats 4000000 in
theorem wordWrong_walk (op : Int) (h0 : 0 ≤ op) (h255 : op ≤ 255) (a b : BitVec 64) (ad : Option Addr) (n c : Nat) (ys : List (BitVec 64)) (w : World)
    (hs : SrcE s w (.slice ad n c) ys) (hn : ys.length = n) (bad : Int) (hmx : (if op < 18 then (18 : Int) else op) = bad) (hb0 : 18 ≤ bad) (hb1 : bad ≤ 255)
    (m : Nat) (hmin : (if (10 : Int) < (n : Int) then 10 else (n : Int)) = (m : Int)) (hm1 : m ≤ n) (hm2 : m ≤ 10) (hmc : m ≤ c) :
    Calls Try.prog 11 #[.int .u8 op, s a, s b, .slice ad n c] w fun e w' => e = .returned (.bool true) ∧ Below w.heap.size w w' := by
  have hE0 : appE 0 b = 130 := appE_bad b (.inl (by decide))
  have hE1 : appE bad b = 130 := appE_bad b (.inr (by omega))
  have hF0 : foldV 0 [a, b] = (0#64, 130) := foldV_bad _ (.inl (by decide))
  have hF1 : foldV bad [a, b] = (0#64, 130) := foldV_bad _ (.inr (by omega))
  have hN1 : NameV bad = ⟨#[]⟩ := NameV_bad (by omega)
  have HS := Hd.mk hs
  have HN := Hd.mk hn
  clear hs hn
  go_enter Try.func11, Try.ntmps11
  go_wp2_with fail
  obtain ⟨w1, hw1⟩ : ∃ w1, w1 = w.alloc (.cells #[.int .u8 0, .int .u8 bad] 5) := ⟨_, rfl⟩
  have hsz1 : w.heap.size < w1.heap.size := by rw [hw1]; simp
  have HW := Hd.mk hw1
  clear hw1
  go_loopw [31] (fun i W => ∃ k : Nat, k ≤ 2 ∧ i = .int .i64 k ∧ Below w1.heap.size w1 W) (fun i _ => 2 - (intOf i).toNat)
  case atStart => exact ⟨0, by omega, rfl, by rw [HW.out]; exact Below.refl _ _⟩
  case round =>
    obtain ⟨k, hk, rfl, hB⟩ := hrel
    have hcell : ∀ j v, (#[.int .u8 0, .int .u8 bad] : Array Value)[j]? = some v → wr.cell? ⟨w.heap.size, j, none⟩ = some v := fun j v hv => by
      rw [← hv, hB.cell (p := ⟨w.heap.size, j, none⟩) hsz1, HW.out]
      exact cells_cell (World.alloc_heap_new w _) j
    have hk' : k = 0 ∨ k = 1 ∨ k = 2 := by omega
    clear hk
    rcases hk' with rfl | rfl | rfl
    · rw [show ((0 : Nat) : Int) = 0 from rfl]
      have c0 : wr.cell? ⟨w.heap.size, 0, none⟩ = some (.int .u8 0) := hcell _ _ rfl
      clear hcell
      go_wp2_with fail
      refine (apply_any 0 (by decide) (by decide) a b _).mono ?_
      rintro e w101 ⟨rfl, hB101⟩
      rw [hE0]
      have hB' := hB.trans (hB101.mono hB.size)
      clear hB hB101
      have hB := hB'
      clear hB'
      go_wp2_with fail
      refine (fold_any 0 (by decide) (by decide) _ [a, b] _ (src2 _ a b) (by simp)).mono ?_
      rintro e w102 ⟨rfl, hB102⟩
      rw [hF0]
      have hB' := (hB.alloc hB.size _).trans (hB102.mono (by have := hB.size; simp; omega))
      clear hB hB102
      have hB := hB'
      clear hB'
      go_wp2_with fail
      refine (exact_any 0 (by decide) (by decide) a b _).mono ?_
      rintro e w103 ⟨rfl, hB103⟩
      rw [hE0]
      have hB' := hB.trans (hB103.mono hB.size)
      clear hB hB103
      have hB := hB'
      clear hB'
      go_wp2_with fail
      refine (name_any 0 (by decide) (by decide) _).mono ?_
      rintro e w104 ⟨rfl, hB104⟩
      rw [show NameV 0 = ⟨#[]⟩ from by decide]
      have hB' := hB.trans (hB104.mono hB.size)
      clear hB hB104
      have hB := hB'
      clear hB'
      go_wp2_with fail
      go_roundw
      case rel => exact ⟨1, by omega, by rfl, hB⟩
      case measure => simp [intOf]
    · rw [show ((1 : Nat) : Int) = 1 from rfl]
      have c0 : wr.cell? ⟨w.heap.size, 1, none⟩ = some (.int .u8 bad) := hcell _ _ rfl
      clear hcell
      go_wp2_with fail
      refine (apply_any bad (by omega) hb1 a b _).mono ?_
      rintro e w141 ⟨rfl, hB141⟩
      rw [hE1]
      have hB' := hB.trans (hB141.mono hB.size)
      clear hB hB141
      have hB := hB'
      clear hB'
      go_wp2_with fail
      refine (fold_any bad (by omega) hb1 _ [a, b] _ (src2 _ a b) (by simp)).mono ?_
      rintro e w142 ⟨rfl, hB142⟩
      rw [hF1]
      have hB' := (hB.alloc hB.size _).trans (hB142.mono (by have := hB.size; simp; omega))
      clear hB hB142
      have hB := hB'
      clear hB'
      go_wp2_with fail
      refine (exact_any bad (by omega) hb1 a b _).mono ?_
      rintro e w143 ⟨rfl, hB143⟩
      rw [hE1]
      have hB' := hB.trans (hB143.mono hB.size)
      clear hB hB143
      have hB := hB'
      clear hB'
      go_wp2_with fail
      refine (name_any bad (by omega) hb1 _).mono ?_
      rintro e w144 ⟨rfl, hB144⟩
      rw [hN1]
      have hB' := hB.trans (hB144.mono hB.size)
      clear hB hB144
      have hB := hB'
      clear hB'
      go_wp2_with fail
      go_roundw
      case rel => exact ⟨2, by omega, by rfl, hB⟩
      case measure => simp [intOf]
    · have hB' : Below w.heap.size w wr := (by rw [HW.out]; exact (Below.refl _ _).alloc (Nat.le_refl _) _ : Below w.heap.size w w1).trans (hB.mono (by omega))
      clear hB hcell
      have hB := hB'
      clear hB'
      rw [show ((2 : Nat) : Int) = 2 from rfl]
      clear HW hsz1
      go_wp2_with fail
      obtain ⟨wo, hwo⟩ : ∃ wo, wo = wr := ⟨_, rfl⟩
      rw [← hwo] at hB ⊢
      clear hwo
      go_loopw [18] (fun x W => ∃ p : Int, 1 ≤ p ∧ p ≤ 18 ∧ x = .int .u8 p ∧ Below w.heap.size w W) (fun x _ => (18 - intOf x).toNat)
      case atStart => exact ⟨1, by omega, by omega, rfl, hB⟩
      case round =>
        obtain ⟨p, hp1, hp2, rfl, hB⟩ := hrel
        by_cases hp : p ≤ 17
        · have hS : appE p (smaxV b 1#64) = 0 := appE_ok p _ hp1 hp (smax_ne b)
          by_cases hd : 4 ≤ p ∧ p ≤ 6
          · have hpd : p = 4 ∨ p = 5 ∨ p = 6 := by omega
            clear hd hp hp1 hp2
            rcases hpd with rfl | rfl | rfl
            · skip
              go_wp2_with fail
              refine (apply_any 4 (by omega) (by omega) a 0#64 _).mono ?_
              rintro e w301 ⟨rfl, hB301⟩
              rw [show appE 4 0#64 = 131 from by decide]
              have hB' := hB.trans (hB301.mono hB.size)
              clear hB hB301
              have hB := hB'
              clear hB'
              go_wp2_with fail
              refine (apply_any 4 (by omega) (by omega) a _ _).mono ?_
              rintro e w302 ⟨rfl, hB302⟩
              rw [hS]
              have hB' := hB.trans (hB302.mono hB.size)
              clear hB hB302
              have hB := hB'
              clear hB'
              have hsw : SrcE s (w302.alloc (.cells #[s a, s 0#64] 2)) (.slice ad m c) (ys.take m) := (HS.out.pre (by have := HN.out; omega) (.inr (.inr trivial))).below (hB.alloc hB.size _)
              obtain ⟨v3, w3, hr, ho, hg⟩ := append_s (own2 w302 a 0#64 w.heap.size hB.size) (by have := hB.size; simp; omega) hsw (by rw [List.length_take]; simp; omega)
              have hB3 : Below w.heap.size w w3 := (own2 w302 a 0#64 w.heap.size hB.size).grown (hB.alloc hB.size _) (by have := hB.size; simp; omega) hg
              rw [show s 0#64 = .int .i64 0 from rfl] at hr
              have HO := Hd.mk ho
              clear ho hg hsw
              go_wp2_with (at_builtin; refine wpList_append_run rfl _ _ _ rfl rfl rfl hr ?_; clear hr)
              refine (fold_any 4 (by omega) (by omega) v3 _ w3 HO.out.src (by rw [List.length_append, List.length_take]; simp; omega)).mono ?_
              rintro e w4 ⟨rfl, hB4⟩
              rw [show (foldV 4 ([a, 0#64] ++ ys.take m)).2 = 131 from rfl]
              have hB5 := hB3.trans (hB4.mono hB3.size)
              clear hB hB3 hB4
              go_wp2_with fail
              go_roundw
              case rel => exact ⟨5, by omega, by omega, by go_num, hB5⟩
              case measure => simp [intOf] <;> omega
            · skip
              go_wp2_with fail
              refine (apply_any 5 (by omega) (by omega) a 0#64 _).mono ?_
              rintro e w303 ⟨rfl, hB303⟩
              rw [show appE 5 0#64 = 131 from by decide]
              have hB' := hB.trans (hB303.mono hB.size)
              clear hB hB303
              have hB := hB'
              clear hB'
              go_wp2_with fail
              refine (apply_any 5 (by omega) (by omega) a _ _).mono ?_
              rintro e w304 ⟨rfl, hB304⟩
              rw [hS]
              have hB' := hB.trans (hB304.mono hB.size)
              clear hB hB304
              have hB := hB'
              clear hB'
              have hsw : SrcE s (w304.alloc (.cells #[s a, s 0#64] 2)) (.slice ad m c) (ys.take m) := (HS.out.pre (by have := HN.out; omega) (.inr (.inr trivial))).below (hB.alloc hB.size _)
              obtain ⟨v3, w3, hr, ho, hg⟩ := append_s (own2 w304 a 0#64 w.heap.size hB.size) (by have := hB.size; simp; omega) hsw (by rw [List.length_take]; simp; omega)
              have hB3 : Below w.heap.size w w3 := (own2 w304 a 0#64 w.heap.size hB.size).grown (hB.alloc hB.size _) (by have := hB.size; simp; omega) hg
              rw [show s 0#64 = .int .i64 0 from rfl] at hr
              have HO := Hd.mk ho
              clear ho hg hsw
              go_wp2_with (at_builtin; refine wpList_append_run rfl _ _ _ rfl rfl rfl hr ?_; clear hr)
              refine (fold_any 5 (by omega) (by omega) v3 _ w3 HO.out.src (by rw [List.length_append, List.length_take]; simp; omega)).mono ?_
              rintro e w4 ⟨rfl, hB4⟩
              rw [show (foldV 5 ([a, 0#64] ++ ys.take m)).2 = 131 from rfl]
              have hB5 := hB3.trans (hB4.mono hB3.size)
              clear hB hB3 hB4
              go_wp2_with fail
              go_roundw
              case rel => exact ⟨6, by omega, by omega, by go_num, hB5⟩
              case measure => simp [intOf] <;> omega
            · skip
              go_wp2_with fail
              refine (apply_any 6 (by omega) (by omega) a 0#64 _).mono ?_
              rintro e w305 ⟨rfl, hB305⟩
              rw [show appE 6 0#64 = 131 from by decide]
              have hB' := hB.trans (hB305.mono hB.size)
              clear hB hB305
              have hB := hB'
              clear hB'
              go_wp2_with fail
              refine (apply_any 6 (by omega) (by omega) a _ _).mono ?_
              rintro e w306 ⟨rfl, hB306⟩
              rw [hS]
              have hB' := hB.trans (hB306.mono hB.size)
              clear hB hB306
              have hB := hB'
              clear hB'
              have hsw : SrcE s (w306.alloc (.cells #[s a, s 0#64] 2)) (.slice ad m c) (ys.take m) := (HS.out.pre (by have := HN.out; omega) (.inr (.inr trivial))).below (hB.alloc hB.size _)
              obtain ⟨v3, w3, hr, ho, hg⟩ := append_s (own2 w306 a 0#64 w.heap.size hB.size) (by have := hB.size; simp; omega) hsw (by rw [List.length_take]; simp; omega)
              have hB3 : Below w.heap.size w w3 := (own2 w306 a 0#64 w.heap.size hB.size).grown (hB.alloc hB.size _) (by have := hB.size; simp; omega) hg
              rw [show s 0#64 = .int .i64 0 from rfl] at hr
              have HO := Hd.mk ho
              clear ho hg hsw
              go_wp2_with (at_builtin; refine wpList_append_run rfl _ _ _ rfl rfl rfl hr ?_; clear hr)
              refine (fold_any 6 (by omega) (by omega) v3 _ w3 HO.out.src (by rw [List.length_append, List.length_take]; simp; omega)).mono ?_
              rintro e w4 ⟨rfl, hB4⟩
              rw [show (foldV 6 ([a, 0#64] ++ ys.take m)).2 = 131 from rfl]
              have hB5 := hB3.trans (hB4.mono hB3.size)
              clear hB hB3 hB4
              go_wp2_with fail
              go_roundw
              case rel => exact ⟨7, by omega, by omega, by go_num, hB5⟩
              case measure => simp [intOf] <;> omega
          · have d4 : (p == 4) = false := beq_eq_false_iff_ne.2 (by omega)
            have d5 : (p == 5) = false := beq_eq_false_iff_ne.2 (by omega)
            have d6 : (p == 6) = false := beq_eq_false_iff_ne.2 (by omega)
            have hA : appE p 0#64 = 0 := appE_ok2 p _ hp1 hp hd
            have hF : (foldV p ([a, 0#64] ++ ys.take m)).2 = 0 := foldV_ok p hp1 hp hd _ (by simp)
            clear hd
            go_wp2_with fail
            refine (apply_any p (by omega) (by omega) a 0#64 _).mono ?_
            rintro e w307 ⟨rfl, hB307⟩
            rw [hA]
            have hB' := hB.trans (hB307.mono hB.size)
            clear hB hB307
            have hB := hB'
            clear hB'
            go_wp2_with fail
            refine (apply_any p (by omega) (by omega) a _ _).mono ?_
            rintro e w308 ⟨rfl, hB308⟩
            rw [hS]
            have hB' := hB.trans (hB308.mono hB.size)
            clear hB hB308
            have hB := hB'
            clear hB'
            have hsw : SrcE s (w308.alloc (.cells #[s a, s 0#64] 2)) (.slice ad m c) (ys.take m) := (HS.out.pre (by have := HN.out; omega) (.inr (.inr trivial))).below (hB.alloc hB.size _)
            obtain ⟨v3, w3, hr, ho, hg⟩ := append_s (own2 w308 a 0#64 w.heap.size hB.size) (by have := hB.size; simp; omega) hsw (by rw [List.length_take]; simp; omega)
            have hB3 : Below w.heap.size w w3 := (own2 w308 a 0#64 w.heap.size hB.size).grown (hB.alloc hB.size _) (by have := hB.size; simp; omega) hg
            rw [show s 0#64 = .int .i64 0 from rfl] at hr
            have HO := Hd.mk ho
            clear ho hg hsw
            go_wp2_with (at_builtin; refine wpList_append_run rfl _ _ _ rfl rfl rfl hr ?_; clear hr)
            refine (fold_any p (by omega) (by omega) v3 _ w3 HO.out.src (by rw [List.length_append, List.length_take]; simp; omega)).mono ?_
            rintro e w4 ⟨rfl, hB4⟩
            rw [hF]
            have hB5 := hB3.trans (hB4.mono hB3.size)
            clear hB hB3 hB4
            go_wp2_with fail
            go_roundw
            case rel => exact ⟨p + 1, by omega, by omega, by go_num, hB5⟩
            case measure => simp [intOf] <;> omega
        · obtain rfl : p = 18 := by omega
          go_wp2_with fail
          refine (awake_any _).mono ?_
          rintro e w309 ⟨rfl, hB309⟩
          have hB' := hB.trans (hB309.mono hB.size)
          clear hB hB309
          have hB := hB'
          clear hB'
          go_wp2_with fail
          go_ret
          exact ⟨rfl, hB⟩

theorem s_int {n : Int} (h : (Lit.int .i64 n).wf = true) : Value.int .i64 n = s (BitVec.ofInt 64 n) := by
  have hb := bounds_i64 h
  exact s_ofInt_int n (by omega) (by omega)

theorem wordWrong_all (op : Int) (h0 : 0 ≤ op) (h255 : op ≤ 255) (a b : BitVec 64) (ad : Option Addr) (n c : Nat) (ys : List (BitVec 64)) (w : World)
    (hs : SrcE s w (.slice ad n c) ys) (hn : ys.length = n) :
    Calls Try.prog 11 #[.int .u8 op, s a, s b, .slice ad n c] w fun e w' => e = .returned (.bool true) ∧ Below w.heap.size w w' := by
  have hnc : n ≤ c := by
    rcases hs with ⟨hv, rfl⟩ | ⟨x, c', hv, hc, _, _⟩
    · simp at hn; omega
    · simp only [Value.slice.injEq] at hv; omega
  exact wordWrong_walk op h0 h255 a b ad n c ys w hs hn (if op < 18 then 18 else op) rfl (by split <;> omega) (by split <;> omega) (min n 10) (by split <;> omega) (by omega) (by omega) (by omega)
end Go.Proofs.Ytbmommomhepfpaa
