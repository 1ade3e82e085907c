/- Plain facts of the closed statement. -/
import Derived.Test.YtlblpmadehikgaaE7
import Derived.OwnWalk
namespace Go.Proofs.Ytlblpmadehikgaa
open Go.RowKit Go.Shelf
set_option linter.unusedVariables false

theorem info3z : ∃ i, Try.prog.info? 3 = some i ∧ i.zero = some (.int .i64 0) ∧ i.size = 1 ∧ i.bytes = 8 := ⟨_, rfl, by kernel_rfl, by kernel_rfl, by kernel_rfl⟩
/-- n zeros. -/
def zL (n : Nat) : List Int := List.replicate n 0
theorem zL_len (n : Nat) : (zL n).length = n := List.length_replicate
theorem zL_mem {n : Nat} {t : Int} (h : t ∈ zL n) : t = 0 := (List.mem_replicate.1 h).2
theorem made_zeros (n : Nat) : (madeCells (Value.int .i64 0).cells (n * 1)).toList = (List.replicate n (0 : Int)).map (fun n : Int => Value.int .i64 n) := by
  have hz : (Value.int .i64 0).cells = #[Value.int .i64 0] := rfl
  rw [hz]
  apply List.ext_getElem
  · simp [madeCells]
  · intro i h1 h2
    simp [madeCells, Nat.mod_one]
theorem make_ints {w : World} {ops : Array Oper} {rest : List Oper} {o : Oper} {a : Act} {Q : Exit → Act → World → Prop} (n : Nat) (hn : n ≤ 100000) (hg : o.guard = none) (l c : Operand) (hop : o.op = Op.makeSlice 24 l c) (base : Nat)
    (hl : a.eval l = .int .i64 (n : Int)) (hc : a.eval c = .int .i64 (n : Int)) (b4 : base ≤ w.heap.size)
    (hK : ∀ w', AppI w' base (.slice (some ⟨w.heap.size, 0, none⟩) n n) (zL n) → w.grownBy w' none → wpList Try.prog ops Q rest (a.put o.dst (.slice (some ⟨w.heap.size, 0, none⟩) n n)) w') : wpList Try.prog ops Q (o :: rest) a w := by
  obtain ⟨i, hi, hz, hsz, hby⟩ := info3z
  refine wpList_make_full w hg l c 24 hop base 3 i _ 1 Try.underlying24 hi hz hsz .i64 .i64 _ _ n hl hc rfl rfl (by rw [hby]; omega) (by simp only [maxLen]; omega) b4 (fun w' h1 h2 => hK w' ?_ h2)
  rw [made_zeros] at h1
  unfold AppI OwnE
  rw [zL_len]
  exact h1
theorem zeros_right (n : Nat) (hn : n ≤ 4096) : wrE (zL n) 1 1 = 0 := by
  rw [wrE, if_neg (by rw [zL_len]; omega), if_pos]
  rw [List.all_eq_true.2 (fun t ht => by rw [zL_mem ht]; rfl)]; rfl
theorem zeros_many : wrE (zL 4097) 0 (-1) = 5 := by rw [wrE, if_pos (by rw [zL_len]; omega)]
theorem zeros_wins (n : Nat) : winsV 1 1 (zL (n + 1)) = [(0, 1)] := by
  rw [winsV_winB (fun t ht => by rw [zL_mem ht]; rfl), sort_eq (S := zL (n + 1)) (by rw [zL, List.pairwise_replicate]; right; exact Int.le_refl _) (List.Perm.refl _), zL, List.replicate_succ, winB_cons, if_neg (by decide), if_neg (by decide)]
  show (0, 1) :: winB 1 1 1 _ = _
  rw [winB_past (Int.le_refl _)]
theorem zeros_in : ∀ (N n : Nat), n ≤ N → (inL (zL N) 1 n).length = n
  | N, 0, _ => rfl
  | N, n + 1, h => by
    rw [inL_yes (by rw [List.getD_eq_getElem?_getD, zL, List.getElem?_replicate, if_pos (by omega)]; decide), List.length_append, zeros_in N n (by omega)]; rfl
theorem zL_drop1 (n : Nat) : (zL (n + 1)).drop 1 = zL n := by rw [zL, List.drop_replicate]; rfl
end Go.Proofs.Ytlblpmadehikgaa
