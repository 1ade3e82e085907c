/- Walk of word.Fold. -/
import Derived.Test.YtbmommomhepfpaaW3
import Derived.Test.YtbmommomhepfpaaOwn
import Derived.WalkMore
namespace Go.Proofs.Ytbmommomhepfpaa
open Go.RowKit

def foldW (op : Int) : List (BitVec 64) → BitVec 64 → BitVec 64 × Int
  | [], x => (x, 0)
  | y :: l, x => if appE op y = 0 then foldW op l (appV op x y) else (0#64, appE op y)
def foldV (op : Int) (l : List (BitVec 64)) : BitVec 64 × Int :=
  if op < 1 ∨ 17 < op then (0#64, 130) else match l with | [] => (0#64, 2) | x :: t => foldW op t x


set_option maxRecDepth 100000 in
set_option maxHeartbeats 1000000 in
theorem fold_any (op : Int) (h0 : 0 ≤ op) (h1 : op ≤ 255) (v : Value) (xs : List (BitVec 64)) (w : World) (hs : SrcE s w v xs) (hl : xs.length ≤ 4611686018427387904) :
    Calls Try.prog 18 #[.int .u8 op, v] w fun e w' => e = .returned (.tuple #[s (foldV op xs).1, .int .i64 (foldV op xs).2]) ∧ Below w.heap.size w w' := by
  by_cases hlo : op < 1
  · obtain ⟨a, c, rfl⟩ := hs.shape
    clear hs
    rw [show foldV op xs = (0#64, 130) from if_pos (.inl hlo)]
    go_enter Try.func18, Try.ntmps18
    go_wp2_with fail
    go_step3
    go_wp2_with fail
    rw [Exit.noGoto_ret]
    go_ret2
    exact ⟨rfl, Below.refl _ _⟩
  by_cases hhi : 17 < op
  · obtain ⟨a, c, rfl⟩ := hs.shape
    clear hs
    rw [show foldV op xs = (0#64, 130) from if_pos (.inr hhi)]
    go_enter Try.func18, Try.ntmps18
    go_wp2_with fail
    go_step3
    go_wp2_with fail
    rw [Exit.noGoto_ret]
    go_ret2
    exact ⟨rfl, Below.refl _ _⟩
  rcases hs.cases with ⟨rfl, a, c, rfl⟩ | ⟨b, off, c, rfl, hpos, hlc, hcm, hbs, hcell⟩
  · clear hs
    rw [show foldV op [] = (0#64, 2) from if_neg (by omega)]
    go_enter Try.func18, Try.ntmps18
    go_wp2_with fail
    go_step3
    go_wp2_with fail
    rw [Exit.noGoto_ret]
    go_ret2
    exact ⟨rfl, Below.refl _ _⟩
  · cases xs with
    | nil => simp at hpos
    | cons x0 ys =>
    obtain ⟨m, hm⟩ : ∃ m : Nat, m = ys.length := ⟨_, rfl⟩
    have hne : (((m + 1 : Nat) : Int) == 0) = false := by rw [beq_eq_false_iff_ne]; omega
    have hc0 := hcell 0 hpos
    have hx : Hd (foldV op (x0 :: ys) = foldW op ys x0) := ⟨if_neg (by omega)⟩
    rw [Nat.add_zero, List.getElem_cons_zero] at hc0
    have HC : Hd (∀ j (hj : j < ys.length), w.cell? ⟨b, off + 1 + j, none⟩ = some (s ys[j])) := ⟨fun j hj => by
      have := hcell (j + 1) (by simp; omega)
      rw [List.getElem_cons_succ] at this
      rw [← this, Nat.add_assoc, Nat.add_comm 1 j]⟩
    rw [List.length_cons, ← hm] at hl hlc ⊢
    have HM := Hd.mk hm
    clear hs hcell hpos hm
    by_cases hc1 : c = 1
    · subst hc1
      obtain rfl : m = 0 := by omega
      have HS2 : Hd (SrcE s w (.slice (some ⟨b, off, none⟩) 0 0) ys) := ⟨.inr ⟨_, 0, by rw [← HM.out], by have := HM.out; omega, by simp, fun j hj => by have := HM.out; omega⟩⟩
      go_enter Try.func18, Try.ntmps18
      go_wp2_with fail
      go_step3
      go_wp2_with fail
      go_step3
      go_wp2_with fail
      obtain rfl : ys = [] := List.eq_nil_of_length_eq_zero HM.out.symm
      go_loopw [6, 7, 25] (fun x e i W => x = s x0 ∧ e = .int .i64 0 ∧ i = .int .i64 0 ∧ W = w) (fun _ _ i _ => 0 - (intOf i).toNat)
      case atStart => exact ⟨rfl, rfl, rfl, rfl⟩
      case round =>
        obtain ⟨rfl, rfl, rfl, rfl⟩ := hrel
        go_wp2_with fail
        rw [Exit.noGoto_ret]
        go_ret2
        exact ⟨by rw [hx.out]; rfl, Below.refl _ _⟩
    · have HS2 : Hd (SrcE s w (.slice (some ⟨b, off + 1, none⟩) m (c - 1)) ys) := ⟨.inr ⟨_, c - 1, by rw [← HM.out], by have := HM.out; omega, by omega, fun j hj => by rw [plain_add]; exact HC.out j hj⟩⟩
      go_enter Try.func18, Try.ntmps18
      go_wp2_with fail
      go_step3
      go_wp2_with fail
      go_step3
      go_wp2_with fail
      go_loopw [6, 7, 25] (fun x e i W => ∃ (k : Nat) (z : BitVec 64), k ≤ m ∧ x = s z ∧ e = .int .i64 0 ∧ i = .int .i64 k ∧ Hd (foldW op (ys.drop k) z = foldW op ys x0) ∧ SrcE s W (.slice (some ⟨b, (off + 1), none⟩) m (c - 1)) ys ∧ Below w.heap.size w W) (fun _ _ i _ => m - (intOf i).toNat)
      case atStart => exact ⟨0, x0, by omega, rfl, rfl, rfl, ⟨rfl⟩, HS2.out, Below.refl _ _⟩
      case round =>
        obtain ⟨k, z, hk, rfl, rfl, rfl, HR, hsr, hB⟩ := hrel
        by_cases hlt : k < m
        · have hkm : k < ys.length := by have := HM.out; omega
          obtain ⟨b', off', hbo, _, hck⟩ := hsr.at k hkm
          simp only [Option.some.injEq, Addr.mk.injEq] at hbo
          obtain ⟨rfl, rfl, -⟩ := hbo
          obtain ⟨y, hy⟩ : ∃ y, y = ys[k] := ⟨_, rfl⟩
          rw [← hy] at hck
          have HR2 : Hd (foldW op (ys.drop k) z = if appE op y = 0 then foldW op (ys.drop (k + 1)) (appV op z y) else (0#64, appE op y)) := ⟨by
            rw [List.drop_eq_getElem_cons hkm, foldW, hy]⟩
          have HSR := Hd.mk hsr
          clear hsr hy
          go_wp2_with fail
          refine (apply_any op h0 h1 _ _ _).mono ?_
          rintro e w1 ⟨rfl, hB1⟩
          have HS3 := Hd.mk (HSR.out.below hB1)
          have hB2 := hB.trans (hB1.mono hB.size)
          clear HSR hB hB1
          by_cases he : appE op y = 0
          · rw [he]
            go_wp2_with fail
            go_roundw
            case rel => exact ⟨_, _, _, _, _, _, _, _, _, _, _, _, _, _, _, _, _, ⟨k + 1, appV op z y, by omega, rfl, rfl, by go_num, ⟨by rw [← HR.out, HR2.out, if_pos he]⟩, HS3.out, hB2⟩, rfl⟩
            case measure => simp [intOf]; omega
          · have hv : appV op z y = 0#64 := by unfold appV; rw [if_neg he]
            have he' : (appE op y != 0) = true := by simpa using he
            rw [hv]
            go_wp2_with fail
            rw [Exit.noGoto_ret]
            go_ret2
            exact ⟨by rw [hx.out, ← HR.out, HR2.out, if_neg he]; rfl, hB2⟩
        · go_wp2_with fail
          rw [Exit.noGoto_ret]
          go_ret2
          exact ⟨by rw [hx.out, ← HR.out, List.drop_of_length_le (by have := HM.out; omega)]; rfl, hB⟩
end Go.Proofs.Ytbmommomhepfpaa
