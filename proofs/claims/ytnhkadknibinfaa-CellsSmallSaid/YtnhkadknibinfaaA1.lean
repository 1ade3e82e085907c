/- The memory of cells as it lies in the world; is, owner, Load. -/
import Derived.Test.YtnhkadknibinfaaPL1
import Derived.Test.YtnhkadknibinfaaCells
import Derived.Test.YtnhkadknibinfaaRows
import Derived.LoopTactic
import Derived.Outline
import Derived.Handy
import Derived.Laws.Rows
import Derived.Maps.AppendAt
import Derived.DeepKeys4
import Derived.BigRegion
import Derived.Deep.QuietTactic
import Derived.BigQuiet
import Derived.Deep.DeepCutAuto
import Derived.Deep.DrawnRows
namespace Go.Proofs.Ytnhkadknibinfaa
open Go.RowKit
set_option linter.unusedVariables false
set_option linter.unusedSimpArgs false




/-- Nothing that is protected has turned. -/
structure Kept (pr : Nat → Prop) (w w' : World) : Prop where
  os : w'.os = w.os
  tape : w'.tape = w.tape
  output : w'.output = w.output
  size : w.heap.size ≤ w'.heap.size
  block : ∀ k, pr k → w'.heap[k]? = w.heap[k]?

theorem Kept.refl (pr : Nat → Prop) (w : World) : Kept pr w w := ⟨rfl, rfl, rfl, Nat.le_refl _, fun _ _ => rfl⟩
theorem Kept.trans {pr : Nat → Prop} {a b c : World} (h : Kept pr a b) (k : Kept pr b c) : Kept pr a c :=
  ⟨k.os.trans h.os, k.tape.trans h.tape, k.output.trans h.output, Nat.le_trans h.size k.size, fun i hi => (k.block i hi).trans (h.block i hi)⟩
theorem Kept.mono {pr qr : Nat → Prop} {a b : World} (h : Kept pr a b) (hs : ∀ k, qr k → pr k) : Kept qr a b :=
  ⟨h.os, h.tape, h.output, h.size, fun i hi => h.block i (hs i hi)⟩
theorem Kept.below {pr : Nat → Prop} {a b : World} {B : Nat} (h : Kept pr a b) (hs : ∀ k, k < B → pr k) : Below B a b :=
  ⟨h.os, h.tape, h.output, h.size, fun i hi => h.block i (hs i hi)⟩
theorem Kept.of {pr : Nat → Prop} {a b : World} {B : Nat} (h : Below B a b) (hs : ∀ k, pr k → k < B) : Kept pr a b :=
  ⟨h.os, h.tape, h.output, h.size, fun i hi => h.block i (hs i hi)⟩
theorem Kept.grown {pr : Nat → Prop} {a b : World} {row : Option Nat} (h : a.grownBy b row) (hs : ∀ k, pr k → k < a.heap.size) (hr : ∀ k, row = some k → ¬ pr k) : Kept pr a b :=
  ⟨h.os, h.tape, h.output, h.size, fun i hi => h.block i (hs i hi) (fun e => hr i e.symm hi)⟩

def ik (p : Int × Int) : Value := .agg #[.int .i64 p.1, .int .i64 p.2]
def iv (x : Int) : Value := .int .i64 x
theorem ik_inj (x y : Int × Int) (h : ik x = ik y) : x = y := by
  unfold ik at h
  simp at h
  exact Prod.ext h.1 h.2

/-- Where the memory's parts lie. -/
structure Lay where
  ca : Option Addr
  cc : Nat
  ka : Option Addr
  kc : Nat
  ra : Nat → Option Addr
  rc : Nat → Nat
  mb : Nat → Nat

def rowsV (y : Lay) (a : List (List Int)) : List Value := (List.range a.length).map (fun i => .slice (y.ra i) (a.getD i []).length (y.rc i))
def marksV (y : Lay) (n : Nat) : List Value := (List.range n).map (fun j => .map (some (y.mb j)))

structure RowsAt (y : Lay) (w : World) (pr : Nat → Prop) (a : List (List Int)) : Prop where
  own : OwnE id w 0 28 (.slice y.ca a.length y.cc) (rowsV y a)
  ownP : ∀ d, y.ca = some d → ¬ pr d.block
  row : ∀ i (hi : i < a.length), 0 < a[i].length → ∃ g cur, y.ra i = some ⟨g, 0, none⟩ ∧ ¬ pr g ∧ w.heap[g]? = some (.cells cur 2 (0, 0)) ∧ a[i].length ≤ y.rc i ∧ y.rc i ≤ maxLen ∧ ∀ k (hk : k < a[i].length), cur[k]? = some (iv a[i][k])
  apart : ∀ i j d (hi : i < a.length) (hj : j < a.length), 0 < a[i].length → 0 < a[j].length → y.ra i = some d → y.ra j = some d → i = j
  caps : ∀ i (hi : i < a.length), a[i].length ≤ y.rc i ∧ y.rc i ≤ maxLen ∧ (y.ra i = none → y.rc i = 0)

structure MarksAt (y : Lay) (w : World) (pr : Nat → Prop) (st : St) : Prop where
  own : OwnE id w 0 78 (.slice y.ka st.marks.length y.kc) (marksV y st.marks.length)
  ownP : ∀ d, y.ka = some d → ¬ pr d.block
  maps : ∀ j, j < st.marks.length → ¬ pr (y.mb j) ∧ ∃ L, MapL Try.prog 73 ik iv w (y.mb j) L ∧ ∀ p, lk L p = diffP (snapAt st j) (snapAt st (j + 1)) p
  apart : ∀ i j, i < st.marks.length → j < st.marks.length → y.mb i = y.mb j → i = j

structure MemL (y : Lay) (w : World) (pr : Nat → Prop) (M : Nat) (st : St) : Prop where
  ok : StOk st
  prs : ∀ k, pr k → k < w.heap.size
  bM : w.heap[M]? = some (.cells #[.bool true, .slice y.ca st.now.length y.cc, .slice y.ka st.marks.length y.kc] 63 (0, 0))
  pM : ¬ pr M
  rows : RowsAt y w pr st.now
  marks : MarksAt y w pr st

def MemAt (w : World) (pr : Nat → Prop) (M : Nat) (st : St) : Prop := ∃ y, MemL y w pr M st

/-- A row of the cells, as the walk reads it. -/
theorem RowsAt.at {y : Lay} {w : World} {pr : Nat → Prop} {a : List (List Int)} (h : RowsAt y w pr a) (i : Nat) (hi : i < a.length) :
    ∃ C, y.ca = some ⟨C, 0, none⟩ ∧ ¬ pr C ∧ w.cell? ⟨C, i, none⟩ = some (.slice (y.ra i) a[i].length (y.rc i)) := by
  have hlen : (rowsV y a).length = a.length := by simp [rowsV]
  rcases h.own.cases with ⟨h1, h2⟩ | ⟨g, cap, h1, _, _, _, _, h2, _⟩
  · rw [h2] at hlen; simp at hlen; omega
  · rw [hlen] at h1
    simp only [Value.slice.injEq] at h1
    refine ⟨g, h1.1, h.ownP _ h1.1, ?_⟩
    rw [h2 i (by rw [hlen]; exact hi)]
    simp [rowsV, hi]

theorem MarksAt.at {y : Lay} {w : World} {pr : Nat → Prop} {st : St} (h : MarksAt y w pr st) (j : Nat) (hj : j < st.marks.length) :
    ∃ K, y.ka = some ⟨K, 0, none⟩ ∧ ¬ pr K ∧ w.cell? ⟨K, j, none⟩ = some (.map (some (y.mb j))) := by
  have hlen : (marksV y st.marks.length).length = st.marks.length := by simp [marksV]
  rcases h.own.cases with ⟨h1, h2⟩ | ⟨g, cap, h1, _, _, _, _, h2, _⟩
  · rw [h2] at hlen; simp at hlen; omega
  · rw [hlen] at h1
    simp only [Value.slice.injEq] at h1
    refine ⟨g, h1.1, h.ownP _ h1.1, ?_⟩
    rw [h2 j (by rw [hlen]; exact hj)]
    simp [marksV]

theorem MemL.c0 {y : Lay} {w : World} {pr : Nat → Prop} {M : Nat} {st : St} (h : MemL y w pr M st) : w.cell? ⟨M, 0, none⟩ = some (.bool true) := by rw [cells_cell h.bM]; rfl
theorem MemL.c1 {y : Lay} {w : World} {pr : Nat → Prop} {M : Nat} {st : St} (h : MemL y w pr M st) : w.cell? ⟨M, 1, none⟩ = some (.slice y.ca st.now.length y.cc) := by rw [cells_cell h.bM]; rfl
theorem MemL.c2 {y : Lay} {w : World} {pr : Nat → Prop} {M : Nat} {st : St} (h : MemL y w pr M st) : w.cell? ⟨M, 2, none⟩ = some (.slice y.ka st.marks.length y.kc) := by rw [cells_cell h.bM]; rfl

theorem is_at {M : Nat} {w : World} (h0 : w.cell? ⟨M, 0, none⟩ = some (.bool true)) : Calls Try.prog 31 #[.pointer (some ⟨M, 0, none⟩)] w fun e w' => e = .returned (.bool true) ∧ w = w' := by
  go_enter Try.func31, Try.ntmps31
  go_wp2_with fail
  refine bodyPost_ret (results_tmp Try.results31 _ _ _) rfl ?_
  exact ⟨rfl, rfl⟩

theorem owner_ok {y : Lay} {w : World} {pr : Nat → Prop} {M : Nat} {st : St} (h : MemL y w pr M st) (i : Nat) (hi : i < st.now.length) :
    Calls Try.prog 34 #[.pointer (some ⟨M, 0, none⟩), .int .i64 ((i : Int) + 1)] w fun e w' => e = .returned (.tuple #[.slice (y.ra i) st.now[i].length (y.rc i), .int .i64 0]) ∧ w = w' := by
  have c0 := h.c0
  have c1 := h.c1
  obtain ⟨C, hC, _, cC⟩ := h.rows.at i hi
  rw [hC] at c1
  have n16 := h.ok.owners
  have HH := Hd.mk h
  obtain ⟨n, hn⟩ : ∃ n, st.now[i].length = n := ⟨_, rfl⟩
  rw [hn] at cC ⊢
  obtain ⟨N, hN⟩ : ∃ n, st.now.length = n := ⟨_, rfl⟩
  rw [hN] at c1 hi n16
  have t1 : decide ((i : Int) + 1 < 1) = false := by simp; omega
  have t2 : decide ((N : Int) < (i : Int) + 1) = false := by simp; omega
  clear h hC hn hN
  go_enter Try.func34, Try.ntmps34
  go_wp2_with fail
  refine (is_at c0).mono ?_
  rintro e w1 ⟨rfl, rfl⟩
  go_wp2_with fail
  refine bodyPost_ret (results_tmp2 Try.results34 _ _ _) rfl ?_
  exact ⟨rfl, rfl⟩

theorem owner_bad {y : Lay} {w : World} {pr : Nat → Prop} {M : Nat} {st : St} (h : MemL y w pr M st) (o : Int) (ho : o < 1 ∨ (st.now.length : Int) < o) :
    Calls Try.prog 34 #[.pointer (some ⟨M, 0, none⟩), .int .i64 o] w fun e w' => e = .returned (.tuple #[.slice none 0 0, .int .i64 211]) ∧ w = w' := by
  have c0 := h.c0
  have c1 := h.c1
  obtain ⟨N, hN⟩ : ∃ n, st.now.length = n := ⟨_, rfl⟩
  rw [hN] at c1 ho
  clear h hN
  by_cases h1 : o < 1
  · go_enter Try.func34, Try.ntmps34
    go_wp2_with fail
    refine (is_at c0).mono ?_
    rintro e w1 ⟨rfl, rfl⟩
    go_wp2_with fail
    refine bodyPost_ret (results_tmp2 Try.results34 _ _ _) rfl ?_
    exact ⟨rfl, rfl⟩
  · have h2 : (N : Int) < o := by omega
    go_enter Try.func34, Try.ntmps34
    go_wp2_with fail
    refine (is_at c0).mono ?_
    rintro e w1 ⟨rfl, rfl⟩
    go_wp2_with fail
    refine bodyPost_ret (results_tmp2 Try.results34 _ _ _) rfl ?_
    exact ⟨rfl, rfl⟩

theorem load_any {y : Lay} {w : World} {pr : Nat → Prop} {M : Nat} {st : St} (h : MemL y w pr M st) (o i : Int) :
    Calls Try.prog 21 #[.pointer (some ⟨M, 0, none⟩), .int .i64 o, .int .i64 i] w fun e w' => e = .returned (.tuple #[.int .i64 (ldV st.now o i), .int .i64 (ldE st.now o i)]) ∧ w = w' := by
  by_cases hE : ldE st.now o i = 0
  · obtain ⟨x, hx, hv⟩ := ld_ok hE
    rw [hE, hv]
    obtain ⟨r, k, hr, hk, e, ex⟩ := at2_some hx
    simp only [Prod.mk.injEq] at e
    obtain ⟨rfl, rfl⟩ := e
    have H0 := owner_ok h r hr
    obtain ⟨g, cur, hg, _, hb, hc, hm, hcell⟩ := h.rows.row r hr (by omega)
    have ck : w.cell? ⟨g, k, none⟩ = some (.int .i64 x) := by rw [cells_cell hb, hcell k hk, ex]; rfl
    have hl := h.ok.cells _ (List.getElem_mem hr)
    rw [hg] at H0
    obtain ⟨n, hn⟩ : ∃ n, st.now[r].length = n := ⟨_, rfl⟩
    rw [hn] at H0 hk hl
    clear hx hv hE h hg hb hcell hn ex
    go_enter Try.func21, Try.ntmps21
    go_wp2_with fail
    refine H0.mono ?_
    rintro e w1 ⟨rfl, rfl⟩
    have t1 : decide (((k : Nat) : Int) < 0) = false := by simp
    have t2 : decide ((n : Int) ≤ (k : Int)) = false := by simp; omega
    go_wp2_with fail
    refine bodyPost_ret (results_tmp2 Try.results21 _ _ _) rfl ?_
    exact ⟨rfl, rfl⟩
  · rw [ld_bad hE]
    by_cases ho : o < 1 ∨ (st.now.length : Int) < o
    · have e1 : ldE st.now o i = 211 := by unfold ldE; rw [if_pos ho]
      have H0 := owner_bad h o ho
      rw [e1]
      clear hE e1 h ho
      go_enter Try.func21, Try.ntmps21
      go_wp2_with fail
      refine H0.mono ?_
      rintro e w1 ⟨rfl, rfl⟩
      go_wp2_with fail
      refine bodyPost_ret (results_tmp2 Try.results21 _ _ _) rfl ?_
      exact ⟨rfl, rfl⟩
    · have e1 : ldE st.now o i = 212 := by
        rcases ldE_or st.now o i with h1 | h1 | h1
        · exact absurd h1 hE
        · unfold ldE at h1; rw [if_neg ho] at h1; split at h1 <;> cases h1
        · exact h1
      obtain ⟨r, rfl⟩ : ∃ r : Nat, o = (r : Int) + 1 := ⟨o.toNat - 1, by omega⟩
      have hr : r < st.now.length := by omega
      have H0 := owner_ok h r hr
      have hi : i < 0 ∨ (st.now[r].length : Int) ≤ i := by
        by_cases h0 : i < 0
        · exact .inl h0
        · right
          obtain ⟨k, rfl⟩ : ∃ k : Nat, i = (k : Int) := ⟨i.toNat, by omega⟩
          by_cases hk : k < st.now[r].length
          · exfalso; apply hE; unfold ldE; rw [if_neg ho, at2_get hr hk]; rfl
          · omega
      rw [e1]
      obtain ⟨n, hn⟩ : ∃ n, st.now[r].length = n := ⟨_, rfl⟩
      rw [hn] at H0 hi
      clear hE e1 h ho hn hr
      by_cases h0 : i < 0
      · clear hi
        go_enter Try.func21, Try.ntmps21
        go_wp2_with fail
        refine H0.mono ?_
        rintro e w1 ⟨rfl, rfl⟩
        go_wp2_with fail
        refine bodyPost_ret (results_tmp2 Try.results21 _ _ _) rfl ?_
        exact ⟨rfl, rfl⟩
      · have h2 : (n : Int) ≤ i := by omega
        clear hi
        go_enter Try.func21, Try.ntmps21
        go_wp2_with fail
        refine H0.mono ?_
        rintro e w1 ⟨rfl, rfl⟩
        go_wp2_with fail
        refine bodyPost_ret (results_tmp2 Try.results21 _ _ _) rfl ?_
        exact ⟨rfl, rfl⟩
end Go.Proofs.Ytnhkadknibinfaa
