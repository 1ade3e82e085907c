/- Plain facts of the windows of right times. -/
import Derived.Test.YtlblpmadehikgaaD3
import Derived.Test.YtlblpmadehikgaaPL2
namespace Go.Proofs.Ytlblpmadehikgaa
open Go.RowKit Go.Shelf
set_option linter.unusedVariables false

theorem winsV_winB {ah h : Int} {l : List Int} (hl : ∀ t ∈ l, timeB t = true) : winsV ah h l = winB ah h 0 (sortV l) :=
  wins_winB (fun t ht => (time_iff.1 (hl t ((sort_perm l).mem_iff.2 ht))).1)
/-- The windows X of right times T. -/
structure WX (A H : Int) (T : List Int) (X : List (Int × Int)) : Prop where
  len : X.length ≤ T.length
  mem : ∀ k (hk : k < X.length), X[k].1 ∈ T ∧ X[k].1 < H ∧ X[k].2 = min (X[k].1 + A) H ∧ X[k].1 < X[k].2 ∧ 0 ≤ X[k].1 ∧ X[k].1 ≤ 281474976710656
  nxt : ∀ k (hk : k + 1 < X.length), X[k].2 ≤ X[k + 1].1 ∧ X[k].2 = X[k].1 + A
  cnt : ∀ t ∈ T, cntW t X = if t < H then 1 else 0
theorem WX.of {A H : Int} {T : List Int} (hA : 1 ≤ A) (hT : ∀ t ∈ T, timeB t = true) : WX A H T (winsV A H T) := by
  refine ⟨?_, fun k hk => ?_, fun k hk => ?_, fun t ht => ?_⟩
  · rw [winsV, (sort_perm T).length_eq]; exact winsL_len _ _ _ _
  · obtain ⟨a, b, c, d⟩ := winsV_mem hA (List.getElem_mem hk)
    have := time_iff.1 (hT _ a)
    exact ⟨a, b, c, d, this.1, this.2⟩
  · have hp : (winsV A H T).Pairwise (fun w v => w.2 ≤ v.1 ∧ w.2 = w.1 + A) := by rw [winsV_winB hT]; exact winB_chain hA _ _
    exact List.pairwise_iff_getElem.1 hp k (k + 1) (by omega) hk (by omega)
  · rw [winsV_winB hT]
    exact winB_one hA _ 0 t (sort_pw T) ((sort_perm T).mem_iff.1 ht) (time_iff.1 (hT t ht)).1
theorem cntW_take {t : Int} {X : List (Int × Int)} {k : Nat} (hk : k < X.length) : cntW t (X.take (k + 1)) = cntW t (X.take k) + if (decide (X[k].1 ≤ t) && decide (t < X[k].2)) = true then 1 else 0 := by
  rw [cntW, cntW, List.take_succ_eq_append_getElem hk, List.countP_append, List.countP_singleton]
theorem inW_of {a b t : Int} (h0 : 0 ≤ a) (h1 : a ≤ 281474976710656) (h2 : a < b) (h3 : b ≤ 281474976710657) (ht : timeB t = true) : inW a b t = (decide (a ≤ t) && decide (t < b)) := by
  rw [inW, right_mk h0 h1 h2 h3, ht]; rfl
theorem contains_at {v : Value} {l : List Int} {x : Int} {w : World} (hs : SrcI w v l) (hx : x ∈ l) : Calls Try.prog 27 #[v, .int .i64 x] w fun e w' => e = .returned (.bool true) ∧ Below w.heap.size w w' := by
  have hl : 0 < l.length := List.length_pos_of_mem hx
  obtain ⟨a, c, rfl⟩ := hs.shape
  obtain ⟨b, off, rfl, _, _⟩ := hs.at 0 hl
  have := Try.slices_Contains_int b off l.length c l x w (Nat.le_refl _) hs.small (fun j hj => by
    obtain ⟨b', off', hb, _, hx⟩ := hs.at j hj
    obtain ⟨rfl, rfl⟩ : b = b' ∧ off = off' := by simpa using hb
    rw [hx, List.getD_eq_getElem?_getD, List.getElem?_eq_getElem hj, Option.getD_some])
  refine this.mono ?_
  rintro e w' ⟨rfl, rfl⟩
  rw [List.take_length, List.contains_iff_mem.2 hx]
  exact ⟨rfl, Below.refl _ _⟩
end Go.Proofs.Ytlblpmadehikgaa
