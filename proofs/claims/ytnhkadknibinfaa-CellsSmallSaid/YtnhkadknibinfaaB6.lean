/- Changes. -/
import Derived.Test.YtnhkadknibinfaaB5
import Derived.Test.YtnhkadknibinfaaCalm
namespace Go.Proofs.Ytnhkadknibinfaa
open Go.RowKit Go.Shelf
attribute [local go_sem] Oper.semAt_some
set_option linter.unusedVariables false
set_option linter.unusedSimpArgs false

theorem lt_of_heap {W : World} {x : Nat} {o : Obj} (h : W.heap[x]? = some o) : x < W.heap.size := (Array.getElem?_eq_some_iff.1 h).1
theorem bl_alloc {B W : World} {o : Obj} (h : Below B.heap.size B W) : Below B.heap.size B (W.alloc o) := h.alloc h.size _

/-- What stands between two yields. -/
structure ChQ (w : World) (r : Loop) (M : Nat) (st : St) (i k : Nat) (W : World) : Prop where
  out : ∃ v, W.heap[w.heap.size + 1]? = some (.cells #[v] 31 (0, 0)) ∧ OwnD W (w.heap.size + 5) 39 v (chgK (baseV st) st.now i ++ rowC (baseV st) st.now i k)
  b0 : W.heap[w.heap.size]? = some (.cells #[.pointer (some ⟨M, 0, none⟩)] 24 (0, 0))
  b2 : W.heap[w.heap.size + 2]? = some (.cells #[.pointer (some ⟨M, 0, none⟩)] 24 (0, 0))
  dfr : BlockIs W (w.heap.size + 3) (.deferred (some []))
  lp : W.heap[w.heap.size + 4]? = some (.loop r)
  bel : Below w.heap.size w W

/-- The memory stands where nothing but loops' records turns. -/
theorem MemL.keep {y : Lay} {w w' : World} {pr : Nat → Prop} {M : Nat} {st : St} (h : MemL y w pr M st) (hk : ∀ (b : Nat) (o : Obj), w.heap[b]? = some o → (∀ l, o ≠ .loop l) → w'.heap[b]? = some o) (hs : w.heap.size ≤ w'.heap.size) : MemL y w' pr M st :=
  ⟨h.ok, fun k hp => Nat.lt_of_lt_of_le (h.prs k hp) hs, hk _ _ h.bM (fun _ e => by cases e), h.pM,
    h.rows.keep (fun b cs fr hb => (hk b _ hb (fun _ e => by cases e)).trans hb.symm) (fun b cs fr hb => (hk b _ hb (fun _ e => by cases e)).trans hb.symm),
    h.marks.keep (fun b cs fr hb => (hk b _ hb (fun _ e => by cases e)).trans hb.symm) (fun b es cl hb => (hk b _ hb (fun _ e => by cases e)).trans hb.symm)⟩

theorem own_neD {W : World} {base g : Nat} {v : Value} {l : List Ch} (h : OwnD W base 39 v l) (hg : g < base) : v.ownBlock = none ∨ v.ownBlock ≠ some g := by
  rcases ho : v.ownBlock with _ | k
  · exact .inl rfl
  · right
    have := (World.ownsRow.lt h k ho).1
    intro e; cases e; omega

theorem alloc5 (w : World) (a b c d e : Obj) : (((((w.alloc a).alloc b).alloc c).alloc d).alloc e).heap[w.heap.size]? = some a ∧ (((((w.alloc a).alloc b).alloc c).alloc d).alloc e).heap[w.heap.size + 1]? = some b ∧
    (((((w.alloc a).alloc b).alloc c).alloc d).alloc e).heap[w.heap.size + 2]? = some c ∧ (((((w.alloc a).alloc b).alloc c).alloc d).alloc e).heap[w.heap.size + 3]? = some d ∧ (((((w.alloc a).alloc b).alloc c).alloc d).alloc e).heap[w.heap.size + 4]? = some e := by
  have e1 : ∀ (w : World) (o : Obj), (w.alloc o).heap = w.heap.push o := fun _ _ => rfl
  simp only [e1, Array.getElem?_push, Array.size_push]
  refine ⟨?_, ?_, ?_, ?_, ?_⟩
  · rw [if_neg (by omega), if_neg (by omega), if_neg (by omega), if_neg (by omega), if_pos trivial]
  · rw [if_neg (by omega), if_neg (by omega), if_neg (by omega), if_pos trivial]
  · rw [if_neg (by omega), if_neg (by omega), if_pos trivial]
  · rw [if_neg (by omega), if_pos trivial]
  · rw [if_pos trivial]

/-- A round's end. -/
theorem ChQ.to {w : World} {r : Loop} {M : Nat} {st : St} {i k k' : Nat} {W W' : World} (h : ChQ w r M st i k W) (hk : ∀ b, b < w.heap.size + 4 → b ≠ w.heap.size + 1 → W'.heap[b]? = W.heap[b]?) (hlp : W'.heap[w.heap.size + 4]? = some (.loop r)) (hsz : W.heap.size ≤ W'.heap.size)
    (hos : W'.os = W.os ∧ W'.tape = W.tape ∧ W'.output = W.output) (hout : ∃ v, W'.heap[w.heap.size + 1]? = some (.cells #[v] 31 (0, 0)) ∧ OwnD W' (w.heap.size + 5) 39 v (chgK (baseV st) st.now i ++ rowC (baseV st) st.now i k')) : ChQ w r M st i k' W' :=
  ⟨hout, (hk _ (by omega) (by omega)).trans h.b0, (hk _ (by omega) (by omega)).trans h.b2, (hk _ (by omega) (by omega)).trans h.dfr, hlp,
    h.bel.trans ⟨hos.1, hos.2.1, hos.2.2, hsz, fun b hb => hk b (by omega) (by omega)⟩⟩

/-- What the body of a round finds: the place's box laid, the record busy. -/
theorem ChQ.body {w : World} {r : Loop} {M : Nat} {st : St} {i k : Nat} {W : World} (h : ChQ w r M st i k W) {y : Lay} {pr : Nat → Prop} (hM : MemL y w pr M st) (bx : Obj) :
    (W.alloc bx).heap[w.heap.size + 4]? = some (.loop r) ∧ MemL y (busyW (W.alloc bx) (w.heap.size + 4) r) pr M st ∧ (busyW (W.alloc bx) (w.heap.size + 4) r).heap[W.heap.size]? = some bx ∧
      (busyW (W.alloc bx) (w.heap.size + 4) r).heap[w.heap.size + 4]? = some (.loop { r with state := .busy }) ∧ (busyW (W.alloc bx) (w.heap.size + 4) r).heap.size = W.heap.size + 1 ∧
      (∀ b, b < W.heap.size → b ≠ w.heap.size + 4 → (busyW (W.alloc bx) (w.heap.size + 4) r).heap[b]? = W.heap[b]?) := by
  have hl := lt_of_heap h.lp
  have h1 : (W.alloc bx).heap[w.heap.size + 4]? = some (.loop r) := by rw [heap_alloc_old _ _ hl]; exact h.lp
  have hb : ∀ b, b < W.heap.size → b ≠ w.heap.size + 4 → (busyW (W.alloc bx) (w.heap.size + 4) r).heap[b]? = W.heap[b]? := fun b hb hne => (World.putObj_heap_other hne).trans (heap_alloc_old _ _ hb)
  have hs : (busyW (W.alloc bx) (w.heap.size + 4) r).heap.size = W.heap.size + 1 := by simp [busyW]
  refine ⟨h1, ?_, (World.putObj_heap_other (by omega)).trans (heap_alloc_new _ _), World.putObj_heap_same (lt_of_heap h1), hs, hb⟩
  refine (Ext.mem h.bel hM).keep (fun b o ho hne => ?_) (by omega)
  rw [hb b (lt_of_heap ho) (fun e => by subst e; rw [h.lp] at ho; cases ho; exact hne _ rfl)]
  exact ho

theorem ChQ.next {w : World} {r : Loop} {M : Nat} {st : St} {i : Nat} {W : World} (hi : i < st.now.length) (h : ChQ w r M st i st.now[i].length W) : ChQ w r M st (i + 1) 0 W := by
  refine ⟨?_, h.b0, h.b2, h.dfr, h.lp, h.bel⟩
  obtain ⟨v, hv, ho⟩ := h.out
  rw [← chgK_succ _ _ i hi] at ho
  exact ⟨v, hv, by rw [rowC_zero, List.append_nil]; exact ho⟩

theorem wpListIn_append_run {F : Fence} {nF : Nat} {P : Program} {ops : Array Oper} {rest : List Oper} {o : Oper} {a : Act} {Q : Exit → Act → World → Prop} {w w' : World} {v sv v' : Value} (hg : o.guard = none) (s x : Operand) (t : TypeId)
    (ho : o.op = .call { callee := .builtin .append, args := #[s, x], argTypes := #[t, t] }) (hs : a.eval s = v) (hx : a.eval x = sv)
    (hr : (Builtin.append_ #[t, t] o.type #[v, sv]).run P w = .ok v' w') (h : wpListIn F nF P ops Q rest (a.put o.dst v') w') : wpListIn F nF P ops Q (o :: rest) a w := by
  refine wpListIn_plain hg fun K hK' => ?_
  unfold Oper.wpIn
  refine ⟨?_, ?_⟩
  · simp [Oper.about, ho, resolve, Target.leads, Sem.run_pure]
  · rw [Oper.semAt_plain F _ _ (by rw [ho]; intro c hc'; cases hc')]
    simp [execOp, ho, resolve, invoke, builtin, hs, hx, hr, Result.andThen]
    exact hK' _ _ h

theorem rowC_len (s a : List (List Int)) (i n : Nat) : (rowC s a i n).length ≤ n := by
  unfold rowC
  exact Nat.le_trans (List.length_filterMap_le _ _) (by simp)
theorem chgK_len {s a : List (List Int)} (h : ∀ l ∈ a, l.length ≤ 1024) : ∀ n, n ≤ a.length → (chgK s a n).length ≤ 1024 * n := by
  intro n
  induction n with
  | zero => intro _; simp [chgK]
  | succ n ih =>
    intro hn
    rw [chgK_succ _ _ n (by omega), List.length_append]
    have h1 := ih (by omega)
    have h2 := rowC_len s a n a[n].length
    have h3 := h _ (List.getElem_mem (show n < a.length by omega))
    omega

/-- A change is told: the row's append, and the round's end behind it. -/
theorem ChQ.push {w : World} {r : Loop} {M : Nat} {st : St} {i k : Nat} {W Wb : World} (h : ChQ w r M st i k W) (hb : ∀ b, b < W.heap.size → b ≠ w.heap.size + 4 → Wb.heap[b]? = W.heap[b]?) (hlb : Wb.heap[w.heap.size + 4]? = some (.loop { r with state := .busy })) (hsz : W.heap.size ≤ Wb.heap.size)
    (hos : Wb.os = W.os ∧ Wb.tape = W.tape ∧ Wb.output = W.output) (c : Ch) (hlen : (chgK (baseV st) st.now i ++ rowC (baseV st) st.now i k).length ≤ 100000) (hnx : rowC (baseV st) st.now i (k + 1) = rowC (baseV st) st.now i k ++ [c]) :
    ∃ v a' n' c' w2, Wb.heap[w.heap.size + 1]? = some (.cells #[v] 31 (0, 0)) ∧
      (Builtin.append_ #[31, 31] 31 #[v, .slice (some ⟨Wb.heap.size, 0, none⟩) 1 1]).run Try.prog (Wb.alloc (.cells #[.int .i64 c.1, .int .i64 c.2.1, .int .i64 c.2.2.1, .int .i64 c.2.2.2] 39)) = .ok (.slice a' n' c') w2 ∧
      w2.cell? ⟨w.heap.size + 1, 0, none⟩ = some v ∧ w2.frozen? ⟨w.heap.size + 1, 0, none⟩ = false ∧
      (w2.setCell ⟨w.heap.size + 1, 0, none⟩ (.slice a' n' c')).heap[w.heap.size + 4]? = some (.loop { r with state := .busy }) ∧
      ChQ w r M st i (k + 1) (readyW (w2.setCell ⟨w.heap.size + 1, 0, none⟩ (.slice a' n' c')) (w.heap.size + 4) r) := by
  obtain ⟨v, hv, ho⟩ := h.out
  have hlp := lt_of_heap h.lp
  have hvb : Wb.heap[w.heap.size + 1]? = some (.cells #[v] 31 (0, 0)) := (hb _ (by omega) (by omega)).trans hv
  have hob : OwnD Wb (w.heap.size + 5) 39 v (chgK (baseV st) st.now i ++ rowC (baseV st) st.now i k) := by
    refine OwnD.kept ho (row := some (w.heap.size + 4)) ⟨hos.1, hos.2.1, hos.2.2, hsz, fun x hx hne => hb x hx (fun e => hne (by rw [e]))⟩ (own_neD ho (by omega))
  have hoa := OwnD.alloc hob (.cells #[.int .i64 c.1, .int .i64 c.2.1, .int .i64 c.2.2.1, .int .i64 c.2.2.2] 39)
  obtain ⟨v', w2, hr, ho2, hg2⟩ := app1d c hoa (heap_alloc_new _ _) (by simp; omega) hlen
  obtain ⟨a', n', c', rfl⟩ : ∃ a n c, v' = .slice a n c := by
    obtain ⟨a, c, h⟩ := ho2.src.shape
    exact ⟨_, _, _, h⟩
  have hne : ∀ x, x < w.heap.size + 5 → w2.heap[x]? = Wb.heap[x]? := fun x hx => by
    refine (hg2.block x (by simp; omega) (fun e => ?_)).trans (heap_alloc_old _ _ (by omega))
    have := (World.ownsRow.lt hoa x e.symm).1; omega
  have hset : ∀ x, x ≠ w.heap.size + 1 → (w2.setCell ⟨w.heap.size + 1, 0, none⟩ (.slice a' n' c')).heap[x]? = w2.heap[x]? := fun x hx => setCell_other hx
  have hl2 : (w2.setCell ⟨w.heap.size + 1, 0, none⟩ (.slice a' n' c')).heap[w.heap.size + 4]? = some (.loop { r with state := .busy }) := by rw [hset _ (by omega), hne _ (by omega)]; exact hlb
  have hv2 : w2.heap[w.heap.size + 1]? = some (.cells #[v] 31 (0, 0)) := by rw [hne _ (by omega)]; exact hvb
  have hs2 := hg2.size
  simp only [World.size_alloc] at hs2
  refine ⟨v, a', n', c', w2, hvb, hr, cells_cell hv2 0, cells_free hv2 0, hl2, ?_⟩
  have hrd : ∀ x, x ≠ w.heap.size + 4 → (readyW (w2.setCell ⟨w.heap.size + 1, 0, none⟩ (.slice a' n' c')) (w.heap.size + 4) r).heap[x]? = (w2.setCell ⟨w.heap.size + 1, 0, none⟩ (.slice a' n' c')).heap[x]? := fun x hx => World.putObj_heap_other hx
  have hrs : (readyW (w2.setCell ⟨w.heap.size + 1, 0, none⟩ (.slice a' n' c')) (w.heap.size + 4) r).heap.size = w2.heap.size := by simp [readyW, World.setCell]
  refine h.to (fun x hx hx1 => ?_) (World.putObj_heap_same (lt_of_heap hl2)) (by rw [hrs]; omega) ?_ ⟨.slice a' n' c', ?_, ?_⟩
  · rw [hrd x (by omega), hset x hx1, hne x (by omega), hb x (by omega) (by omega)]
  · refine ⟨?_, ?_, ?_⟩
    · show w2.os = _; rw [hg2.os]; exact hos.1
    · show w2.tape = _; rw [hg2.tape]; exact hos.2.1
    · show w2.output = _; rw [hg2.output]; exact hos.2.2
  · rw [hrd _ (by omega)]; exact cells_set (o := 0) hv2 _
  · rw [hnx, ← List.append_assoc]
    refine OwnD.kept (OwnD.kept ho2 (grown_cell w2 (w.heap.size + 1) 0 (.slice a' n' c')) (own_neD ho2 (by omega))) (row := some (w.heap.size + 4)) ⟨rfl, rfl, rfl, by rw [hrs]; simp [World.setCell], fun x hx hne => hrd x (fun e => hne (by rw [e]))⟩ ?_
    exact own_neD (OwnD.kept ho2 (grown_cell w2 (w.heap.size + 1) 0 (.slice a' n' c')) (own_neD ho2 (by omega))) (by omega)

/-- No change is told. -/
theorem ChQ.skip {w : World} {r : Loop} {M : Nat} {st : St} {i k : Nat} {W Wb : World} (h : ChQ w r M st i k W) (hb : ∀ b, b < W.heap.size → b ≠ w.heap.size + 4 → Wb.heap[b]? = W.heap[b]?) (hlb : Wb.heap[w.heap.size + 4]? = some (.loop { r with state := .busy })) (hsz : W.heap.size ≤ Wb.heap.size)
    (hos : Wb.os = W.os ∧ Wb.tape = W.tape ∧ Wb.output = W.output) (hnx : rowC (baseV st) st.now i (k + 1) = rowC (baseV st) st.now i k) : ChQ w r M st i (k + 1) (readyW Wb (w.heap.size + 4) r) := by
  obtain ⟨v, hv, ho⟩ := h.out
  have hlp := lt_of_heap h.lp
  have hrd : ∀ x, x ≠ w.heap.size + 4 → (readyW Wb (w.heap.size + 4) r).heap[x]? = Wb.heap[x]? := fun x hx => World.putObj_heap_other hx
  have hrs : (readyW Wb (w.heap.size + 4) r).heap.size = Wb.heap.size := by simp [readyW]
  refine h.to (fun x hx hx1 => ?_) (World.putObj_heap_same (lt_of_heap hlb)) (by rw [hrs]; exact hsz) hos ⟨v, ?_, ?_⟩
  · rw [hrd x (by omega), hb x (by omega) (by omega)]
  · rw [hrd _ (by omega), hb _ (by omega) (by omega)]; exact hv
  · rw [hnx]
    exact OwnD.kept ho (row := some (w.heap.size + 4)) ⟨hos.1, hos.2.1, hos.2.2, by rw [hrs]; exact hsz, fun x hx hne => by rw [hrd x (fun e => hne (by rw [e])), hb x hx (fun e => hne (by rw [e]))]⟩ (own_neD ho (by omega))

set_option maxRecDepth 100000 in
set_option maxHeartbeats 1000000 in
theorem changes_any {y : Lay} {w : World} {pr : Nat → Prop} {M : Nat} {st : St} (h : MemL y w pr M st) :
    Calls Try.prog 15 #[.pointer (some ⟨M, 0, none⟩)] w fun e w' => ∃ v, e = .returned v ∧ OwnD w' w.heap.size 39 v (changesV st) ∧ Below w.heap.size w w' := by
  have hB1 := (Below.refl w.heap.size w).alloc (Nat.le_refl _) (.cells #[.pointer (some ⟨M, 0, none⟩)] 24)
  have c0 := (Ext.mem hB1 h).c0
  have HM := Hd.mk h
  clear h hB1
  refine (callsIn_wide (n := 0)).1 ?_
  refine callsIn_of_wp_marks Try.func15 rfl trivial ?_
  simp only [Try.ntmps15, List.size_toArray, List.length_cons, List.length_nil, Nat.reduceAdd, Nat.reduceSub, Array.replicate_succ, Array.replicate_zero, List.push_toArray, List.append_toArray, List.nil_append, List.cons_append]
  gi_wp2_with fail
  refine (callsIn_wide.2 (is_at c0)).mono ?_
  rintro e w1 ⟨rfl, rfl⟩
  clear c0
  gi_wp2_with fail
  refine (callsIn_wide.2 (iter_any _ _)).mono ?_
  rintro e w1 ⟨rfl, rfl⟩
  simp only [World.size_alloc]
  gi_wp2_with fail
  refine range_enter 45 #[.pointer (some ⟨w.heap.size + 1 + 1, 0, none⟩)] rfl (enters_of Try.func45 (by kernel_rfl) rfl) ?_
  intro r hr
  simp only [World.size_alloc]
  have H0 : ChQ w r M st 0 0 (((((w.alloc (.cells #[.pointer (some ⟨M, 0, none⟩)] 24)).alloc (.cells #[.slice none 0 0] 31)).alloc (.cells #[.pointer (some ⟨M, 0, none⟩)] 24)).alloc (.deferred (some []))).alloc (.loop r)) := by
    obtain ⟨q0, q1, q2, q3, q4⟩ := alloc5 w (.cells #[.pointer (some ⟨M, 0, none⟩)] 24) (.cells #[.slice none 0 0] 31) (.cells #[.pointer (some ⟨M, 0, none⟩)] 24) (.deferred (some [])) (.loop r)
    exact ⟨⟨.slice none 0 0, q1, OwnD.nil _ _ _⟩, q0, q2, q3, q4, bl_alloc (bl_alloc (bl_alloc (bl_alloc (bl_alloc (Below.refl _ _)))))⟩
  refine (cells1 (w.heap.size + 2) (w.heap.size + 4) M y pr st (fun i k W => ChQ w r M st i k W) (fun i k W h => ⟨h.b2, Ext.mem h.bel HM.out⟩) (fun i W hi h => h.next hi) ?_ _ H0).mono ?_
  · intro i k W hi hk hI
    refine yield_at hr hI.lp rfl ?_
    have hx : at2 st.now ((i : Int) + 1, (k : Int)) = some st.now[i][k] := at2_get hi hk
    have n16 := HM.out.ok.owners
    have m64 := HM.out.ok.many
    have hl1 := HM.out.ok.cells _ (List.getElem_mem hi)
    obtain ⟨hlA, hMb, hPb, hlb, hsb, hbb⟩ := hI.body HM.out (.cells #[.int .i64 ((i : Int) + 1), .int .i64 (k : Int)] 73)
    have hlen : (chgK (baseV st) st.now i ++ rowC (baseV st) st.now i k).length ≤ 100000 := by
      rw [List.length_append]
      have h1 := chgK_len (s := baseV st) HM.out.ok.cells i (by omega)
      have h2 := rowC_len (baseV st) st.now i k
      omega
    have hos : ∀ n, ((busyW (W.alloc (.cells #[.int .i64 ((i : Int) + 1), .int .i64 (k : Int)] 73)) (w.heap.size + 4) r).drewN n).os = W.os ∧ ((busyW (W.alloc (.cells #[.int .i64 ((i : Int) + 1), .int .i64 (k : Int)] 73)) (w.heap.size + 4) r).drewN n).tape = W.tape ∧ ((busyW (W.alloc (.cells #[.int .i64 ((i : Int) + 1), .int .i64 (k : Int)] 73)) (w.heap.size + 4) r).drewN n).output = W.output := fun n => ⟨rfl, rfl, rfl⟩
    have hrow := rowC_succ (baseV st) st.now i k
    obtain ⟨x, hX⟩ : ∃ x, st.now[i][k] = x := ⟨_, rfl⟩
    rw [hX] at hx ⊢
    have b0 := (hbb w.heap.size (by have := lt_of_heap hI.lp; omega) (by omega)).trans hI.b0
    have HI := Hd.mk hI
    have HLA := Hd.mk hlA
    have hlp := lt_of_heap hI.lp
    clear hI hlA hX
    gi_wp2_with fail
    refine ⟨HLA.out, ?_⟩
    obtain ⟨Wb, hWb⟩ : ∃ Wb, busyW (W.alloc (.cells #[.int .i64 ((i : Int) + 1), .int .i64 (k : Int)] 73)) (w.heap.size + 4) r = Wb := ⟨_, rfl⟩
    rw [hWb] at hMb hPb hlb hsb hbb b0 hos ⊢
    have hos0 : Wb.os = W.os ∧ Wb.tape = W.tape ∧ Wb.output = W.output := hos 0
    clear hWb
    have cB := cells_cell b0 0
    have p0 := cells_cell hPb 0
    have p1 := cells_cell hPb 1
    have c2 := hMb.c2
    simp only [List.getElem?_toArray, List.getElem?_cons_zero, List.getElem?_cons_succ] at cB p0 p1
    rcases hn : st.marks.length with _ | m
    · -- no marks
      rw [hn] at c2
      have hbz : baseV st = zer st.now := by
        unfold baseV
        rw [List.length_eq_zero_iff.1 hn]; rfl
      have hz := at2_zer hx
      by_cases h0 : x = 0
      · have hch : ch1 (baseV st) st.now i k = none := by
          unfold ch1; rw [hbz, hz, hx]; simp [h0]
        rw [hch] at hrow
        have HFIN := Hd.mk (HI.out.skip hbb hlb (by omega) hos0 (by rw [hrow]; simp))
        have HLB := Hd.mk hlb
        have t1 : (x != 0) = false := by simp [h0]
        have t2 : (x == 0) = true := by simp [h0]
        have t3 : decide (x = 0) = true := by simp [h0]
        clear hch hrow hbz hz hn hx hlen hos hos0 hbb hlb hMb hPb h0 hsb
        gi_wp2_with fail
        exact ⟨HLB.out, rfl, HFIN.out⟩
      · have hch : ch1 (baseV st) st.now i k = some ((i : Int) + 1, (k : Int), 0, x) := by
          unfold ch1; rw [hbz, hz, hx]; simp [Ne.symm h0]
        rw [hch] at hrow
        obtain ⟨v, a', n', c', w2, h1, hrun, h2, h3, h4, h5⟩ := HI.out.push hbb hlb (by omega) hos0 ((i : Int) + 1, (k : Int), 0, x) hlen hrow
        have HL4 := Hd.mk h4
        have HFIN := Hd.mk h5
        have cO := cells_cell h1 0
        dsimp only at hrun
        simp only [List.getElem?_toArray, List.getElem?_cons_zero] at cO
        have t1 : (x != 0) = true := by simp [h0]
        have t2 : (x == 0) = false := by simp [h0]
        have t3 : decide (x = 0) = false := by simp [h0]
        clear hch hrow hbz hz hn hx hlen hos hos0 hbb hlb hMb hPb h0 h1 h4 h5 hsb
        gi_wp2_with (gi_at_builtin; refine wpListIn_append_run rfl _ _ _ rfl rfl rfl hrun ?_; clear hrun)
        exact ⟨HL4.out, rfl, HFIN.out⟩
    · rw [hn] at c2 m64
      obtain ⟨K, hK, _, cK⟩ := hMb.marks.at m (by rw [hn]; omega)
      rw [hK] at c2
      obtain ⟨_, L, hL, hd⟩ := hMb.marks.maps m (by rw [hn]; omega)
      have hsn : snapAt st (m + 1) = st.now := by unfold snapAt; rw [List.getElem?_eq_none (by rw [hn]; exact Nat.le_refl _)]; rfl
      have hbase : baseV st = snapAt st m := by
        unfold baseV snapAt
        rw [List.getLast?_eq_getElem?, hn, Nat.add_sub_cancel, List.getElem?_eq_getElem (by rw [hn]; omega)]
        rfl
      rw [hsn, ← hbase] at hd
      have hlk := hd ((i : Int) + 1, (k : Int))
      obtain ⟨sv, hsv⟩ : ∃ s, at2 (baseV st) ((i : Int) + 1, (k : Int)) = some s := by
        have h2 := at2_isSome (base_shape HM.out.ok) ((i : Int) + 1, (k : Int))
        rw [hx] at h2
        exact Option.isSome_iff_exists.1 h2
      unfold diffP at hlk
      rw [hsv, hx] at hlk
      obtain ⟨kl, hkl⟩ := key73 ((i : Int) + 1) (k : Int) (WalkArith.wf_i64 ⟨by have := HM.out.ok.owners; omega, by have := HM.out.ok.owners; omega⟩) (WalkArith.wf_i64 ⟨by omega, by omega⟩)
      have hlook := fun W' (h : MapL Try.prog 73 ik iv W' (y.mb m) L) => h.look keyed73 ik_inj Try.underlying76 (Try.zeroValue2 W') _ hkl true
      have lM : M < Wb.heap.size := World.block_lt_of_cell? Wb _ c2
      have i0 : (0 : Int) < ((m + 1 : Nat) : Int) := by omega
      have i1 : IntKind.i64.wrap (m : Int) = (m : Int) := IntWalk.i64_in _ ⟨by omega, by omega⟩
      have t1 : (x != 0) = decide (x ≠ 0) := by by_cases h : x = 0 <;> simp [h]
      have HLK := Hd.mk hlk
      have HLOOK := Hd.mk hlook
      have HL := Hd.mk hL
      have HSV := Hd.mk hsv
      have HX := Hd.mk hx
      have HROW := Hd.mk hrow
      have HLEN := Hd.mk hlen
      have HBB := Hd.mk hbb
      have HLB := Hd.mk hlb
      have HOS := Hd.mk hos
      have HSB := Hd.mk hsb
      clear hlk hlook hL hsv hx hrow hlen hbb hlb hos hos0 hsb hd hsn hbase hK hMb hPb hkl hn t1
      obtain ⟨Wd, hWd⟩ : ∃ W, Wb.drew = W := ⟨_, rfl⟩
      have hlr : ∃ o b, (Instr.lookup 76 (.map (some (y.mb m))) (.agg #[.int .i64 ((i : Int) + 1), .int .i64 (k : Int)]) true).run Try.prog Wd = .ok (.tuple #[.int .i64 o, .bool b]) Wd ∧ ((b = false ∧ lk L ((i : Int) + 1, (k : Int)) = none) ∨ (b = true ∧ lk L ((i : Int) + 1, (k : Int)) = some o)) := by
        rw [← hWd]
        rcases HLOOK.out Wb.drew (HL.out.same rfl) with ⟨hl, hrun⟩ | ⟨old, hl, hrun⟩
        · exact ⟨0, false, hrun, .inl ⟨rfl, hl⟩⟩
        · exact ⟨old, true, hrun, .inr ⟨rfl, hl⟩⟩
      have i2 : (m : Int) < (m : Int) + 1 := by omega
      obtain ⟨ov, bv, hrun, hlv⟩ := hlr
      have HLV := Hd.mk hlv
      clear hlv
      have dB : Wd.cell? ⟨w.heap.size, 0, none⟩ = some (.pointer (some ⟨M, 0, none⟩)) := by rw [← hWd]; exact cB
      have d2 : Wd.cell? ⟨M, 2, none⟩ = some (.slice (some ⟨K, 0, none⟩) (m + 1) y.kc) := by rw [← hWd]; exact c2
      have dK : Wd.cell? ⟨K, m, none⟩ = some (.map (some (y.mb m))) := by rw [← hWd]; exact cK
      have dp0 : Wd.cell? ⟨W.heap.size, 0, none⟩ = some (.int .i64 ((i : Int) + 1)) := by rw [← hWd]; exact p0
      have dp1 : Wd.cell? ⟨W.heap.size, 1, none⟩ = some (.int .i64 (k : Int)) := by rw [← hWd]; exact p1
      have HBB2 : Hd (∀ b, b < W.heap.size → b ≠ w.heap.size + 4 → Wd.heap[b]? = W.heap[b]?) := ⟨by rw [← hWd]; exact HBB.out⟩
      have HLB2 : Hd (Wd.heap[w.heap.size + 4]? = some (.loop { r with state := .busy })) := ⟨by rw [← hWd]; exact HLB.out⟩
      have HOS2 : Hd (Wd.os = W.os ∧ Wd.tape = W.tape ∧ Wd.output = W.output) := ⟨by rw [← hWd]; exact HOS.out 1⟩
      have HSB2 : Hd (Wd.heap.size = W.heap.size + 1) := ⟨by rw [← hWd]; exact HSB.out⟩
      have HDB : Hd (Wd.cell? ⟨w.heap.size, 0, none⟩ = some (.pointer (some ⟨M, 0, none⟩))) := ⟨dB⟩
      gi_wp2_with fail
      refine wpIn_region_calm (S := fun W => W = Wb.drew) (by kernel_rfl) (by kernel_rfl) rfl (fun hS_ => ?_)
      refine takeW 0 ?_ rfl (by kernel_rfl) (by kernel_rfl) (by kernel_rfl) onlyN_panic (by rfl) ?_ hS_ ?_
      rotate_left
      · intro w hSw
        have hSw : w = Wb.drew := hSw
        rw [hSw, hWd]
        go_simp
        with_reducible rfl
      try simp only [Act.put, List.setIfInBounds_toArray, List.set_cons_zero, List.set_cons_succ]
      refine takeW 1 ?_ rfl (by kernel_rfl) (by kernel_rfl) (by kernel_rfl) onlyN_panic (by rfl) ?_ hS_ ?_
      rotate_left
      · intro w hSw
        have hSw : w = Wb.drew := hSw
        rw [hSw, hWd]
        go_simp
        with_reducible rfl
      try simp only [Act.put, List.setIfInBounds_toArray, List.set_cons_zero, List.set_cons_succ]
      refine takeW 2 ?_ rfl (by kernel_rfl) (by kernel_rfl) (by kernel_rfl) onlyN_panic (by rfl) ?_ hS_ ?_
      rotate_left
      · intro w hSw
        have hSw : w = Wb.drew := hSw
        rw [hSw, hWd]
        go_simp
        with_reducible rfl
      try simp only [Act.put, List.setIfInBounds_toArray, List.set_cons_zero, List.set_cons_succ]
      refine takeW 3 ?_ rfl (by kernel_rfl) (by kernel_rfl) (by kernel_rfl) onlyN_panic (by rfl) ?_ hS_ ?_
      rotate_left
      · intro w hSw
        have hSw : w = Wb.drew := hSw
        rw [hSw, hWd]
        go_simp
        with_reducible rfl
      try simp only [Act.put, List.setIfInBounds_toArray, List.set_cons_zero, List.set_cons_succ]
      refine takeW 4 ?_ rfl (by kernel_rfl) (by kernel_rfl) (by kernel_rfl) onlyN_panic (by rfl) ?_ hS_ ?_
      rotate_left
      · intro w hSw
        have hSw : w = Wb.drew := hSw
        rw [hSw, hWd]
        go_simp
        with_reducible rfl
      try simp only [Act.put, List.setIfInBounds_toArray, List.set_cons_zero, List.set_cons_succ]
      refine takeW 5 ?_ rfl (by kernel_rfl) (by kernel_rfl) (by kernel_rfl) onlyN_panic (by rfl) ?_ hS_ ?_
      rotate_left
      · intro w hSw
        have hSw : w = Wb.drew := hSw
        rw [hSw, hWd]
        go_simp
        with_reducible rfl
      try simp only [Act.put, List.setIfInBounds_toArray, List.set_cons_zero, List.set_cons_succ]
      refine takeW 6 ?_ rfl (by kernel_rfl) (by kernel_rfl) (by kernel_rfl) onlyN_panic (by rfl) ?_ hS_ ?_
      rotate_left
      · intro w hSw
        have hSw : w = Wb.drew := hSw
        rw [hSw, hWd]
        go_simp
        with_reducible rfl
      try simp only [Act.put, List.setIfInBounds_toArray, List.set_cons_zero, List.set_cons_succ]
      refine takeW 7 ?_ rfl (by kernel_rfl) (by kernel_rfl) (by kernel_rfl) onlyN_panic (by rfl) ?_ hS_ ?_
      rotate_left
      · intro w hSw
        have hSw : w = Wb.drew := hSw
        rw [hSw, hWd]
        go_simp
        with_reducible rfl
      try simp only [Act.put, List.setIfInBounds_toArray, List.set_cons_zero, List.set_cons_succ]
      refine takeW 8 ?_ rfl (by kernel_rfl) (by kernel_rfl) (by kernel_rfl) onlyN_panic (by rfl) ?_ hS_ ?_
      rotate_left
      · intro w hSw
        have hSw : w = Wb.drew := hSw
        rw [hSw, hWd]
        go_simp
        with_reducible rfl
      try simp only [Act.put, List.setIfInBounds_toArray, List.set_cons_zero, List.set_cons_succ]
      refine takeW 9 ?_ rfl (by kernel_rfl) (by kernel_rfl) (by kernel_rfl) onlyN_panic (by rfl) ?_ hS_ ?_
      rotate_left
      · intro w hSw
        have hSw : w = Wb.drew := hSw
        rw [hSw, hWd]
        go_simp
        with_reducible rfl
      try simp only [Act.put, List.setIfInBounds_toArray, List.set_cons_zero, List.set_cons_succ]
      refine takeW 10 ?_ rfl (by kernel_rfl) (by kernel_rfl) (by kernel_rfl) onlyN_panic (by rfl) ?_ hS_ ?_
      rotate_left
      · intro w hSw
        have hSw : w = Wb.drew := hSw
        rw [hSw, hWd]
        go_simp
        with_reducible rfl
      try simp only [Act.put, List.setIfInBounds_toArray, List.set_cons_zero, List.set_cons_succ]
      refine takeW 11 ?_ rfl (by kernel_rfl) (by kernel_rfl) (by kernel_rfl) onlyN_panic (by rfl) ?_ hS_ ?_
      rotate_left
      · intro w hSw
        have hSw : w = Wb.drew := hSw
        rw [hSw, hWd]
        go_simp
        with_reducible rfl
      try simp only [Act.put, List.setIfInBounds_toArray, List.set_cons_zero, List.set_cons_succ]
      refine takeW 12 ?_ rfl (by kernel_rfl) (by kernel_rfl) (by kernel_rfl) onlyN_panic (by rfl) ?_ hS_ ?_
      rotate_left
      · intro w hSw
        have hSw : w = Wb.drew := hSw
        rw [hSw, hWd]
        go_simp
        with_reducible rfl
      try simp only [Act.put, List.setIfInBounds_toArray, List.set_cons_zero, List.set_cons_succ]
      refine takeW 13 ?_ rfl (by kernel_rfl) (by kernel_rfl) (by kernel_rfl) onlyN_panic (by rfl) ?_ hS_ ?_
      rotate_left
      · intro w hSw
        have hSw : w = Wb.drew := hSw
        rw [hSw, hWd]
        go_simp
        with_reducible rfl
      try simp only [Act.put, List.setIfInBounds_toArray, List.set_cons_zero, List.set_cons_succ]
      refine takeW 14 ?_ rfl (by kernel_rfl) (by kernel_rfl) (by kernel_rfl) onlyN_panic (by rfl) ?_ hS_ ?_
      rotate_left
      · intro w hSw
        have hSw : w = Wb.drew := hSw
        rw [hSw, hWd]
        go_simp
        with_reducible rfl
      try simp only [Act.put, List.setIfInBounds_toArray, List.set_cons_zero, List.set_cons_succ]
      refine takeW 15 ?_ rfl (by kernel_rfl) (by kernel_rfl) (by kernel_rfl) onlyN_panic (by rfl) ?_ hS_ ?_
      rotate_left
      · intro w hSw
        have hSw : w = Wb.drew := hSw
        rw [hSw, hWd]
        go_simp
        with_reducible rfl
      try simp only [Act.put, List.setIfInBounds_toArray, List.set_cons_zero, List.set_cons_succ]
      refine wpAnyH_done (by kernel_rfl) ⟨rfl, ?_⟩ _
      rw [hWd]
      clear hrun cB c2 cK p0 p1 HBB HLB HOS HSB HL HLOOK
      clear hWd
      rcases HLV.out with ⟨rfl, hl⟩ | ⟨rfl, hl⟩
      · have hsx : sv = x := by
          have h1 := HLK.out
          rw [hl] at h1
          by_cases e : sv = x
          · exact e
          · rw [if_neg (by simpa using e)] at h1; cases h1
        have hch : ch1 (baseV st) st.now i k = none := by
          unfold ch1; rw [HSV.out, HX.out]; simp [hsx]
        have hrow := HROW.out
        rw [hch] at hrow
        have HFIN := Hd.mk (HI.out.skip (Wb := Wd) HBB2.out HLB2.out (show W.heap.size ≤ Wd.heap.size by have := HSB2.out; omega) HOS2.out (by rw [hrow]; simp))
        clear hl hsx hch hrow HLV
        gi_wp2_with fail
        exact ⟨HLB2.out, rfl, HFIN.out⟩
      · have hsx : sv = ov ∧ sv ≠ x := by
          have h1 := HLK.out
          rw [hl] at h1
          by_cases e : sv = x
          · rw [if_pos (by rw [e])] at h1; cases h1
          · rw [if_neg (by simpa using e)] at h1; exact ⟨(Option.some.inj h1).symm, e⟩
        have hch : ch1 (baseV st) st.now i k = some ((i : Int) + 1, (k : Int), ov, x) := by
          unfold ch1; rw [HSV.out, HX.out]; simp [← hsx.1, hsx.2]
        have hrow := HROW.out
        rw [hch] at hrow
        obtain ⟨v, a', n', c', w2, h1, hrun2, h2, h3, h4, h5⟩ := HI.out.push (Wb := Wd) HBB2.out HLB2.out (show W.heap.size ≤ Wd.heap.size by have := HSB2.out; omega) HOS2.out ((i : Int) + 1, (k : Int), ov, x) HLEN.out hrow
        have HL4 := Hd.mk h4
        have HFIN := Hd.mk h5
        have cO := cells_cell h1 0
        dsimp only at hrun2
        simp only [List.getElem?_toArray, List.getElem?_cons_zero] at cO
        clear hl hsx hch hrow h1 h4 h5 HLV
        gi_wp2_with (gi_at_builtin; refine wpListIn_append_run rfl _ _ _ rfl rfl rfl hrun2 ?_; clear hrun2)
        exact ⟨HL4.out, rfl, HFIN.out⟩
  · rintro e W ⟨hv, hW⟩
    refine ⟨hv, .ready, none, by simp, ?_, ?_⟩
    · rw [hW.lp, hr.same]
    · obtain ⟨v, hv1, ho⟩ := hW.out
      rw [rowC_zero, List.append_nil] at ho
      have hchg : chgK (baseV st) st.now st.now.length = changesV st := rfl
      rw [hchg] at ho
      have hgb : W.grownBy (W.putObj (w.heap.size + 4) (.loop { r with state := .exhausted, pending := none })) (some (w.heap.size + 4)) := ⟨rfl, rfl, rfl, by simp, fun i hi hn => World.putObj_heap_other (fun e => hn (by rw [e]))⟩
      have hv2 : (W.putObj (w.heap.size + 4) (.loop { r with state := .exhausted, pending := none })).heap[w.heap.size + 1]? = some (.cells #[v] 31 (0, 0)) := (World.putObj_heap_other (by omega)).trans hv1
      have ho2 : OwnD (W.putObj (w.heap.size + 4) (.loop { r with state := .exhausted, pending := none })) (w.heap.size + 5) 39 v (changesV st) := OwnD.kept ho hgb (own_neD ho (by omega))
      have hD : BlockIs (W.putObj (w.heap.size + 4) (.loop { r with state := .exhausted, pending := none })) (w.heap.size + 3) (.deferred (some [])) := (World.putObj_heap_other (by omega)).trans hW.dfr
      have hBb : Below w.heap.size w (W.putObj (w.heap.size + 4) (.loop { r with state := .exhausted, pending := none })) := putObj_below hW.bel (by omega)
      generalize W.putObj (w.heap.size + 4) (.loop { r with state := .exhausted, pending := none }) = W2 at hv2 ho2 hD hBb ⊢
      have c0 := cells_cell hv2 0
      have HO := Hd.mk ho2
      have HD := Hd.mk hD
      have HBb := Hd.mk hBb
      clear hv1 ho hgb hv2 ho2 hD hBb hW
      simp only [List.getElem?_toArray, List.getElem?_cons_zero] at c0
      simp only [Act.marked]
      gi_wp2_with fail
      refine ⟨by simp, .inl ⟨_, _, rfl, run_takeDeferred HD.out, ?_⟩⟩
      have hg3 : ∀ o, W2.grownBy (W2.putObj (w.heap.size + 3) o) (some (w.heap.size + 3)) := fun o => ⟨rfl, rfl, rfl, by simp, fun i hi hn => World.putObj_heap_other (fun e => hn (by rw [e]))⟩
      have hfin : OwnD (W2.putObj (w.heap.size + 3) (.deferred none)) w.heap.size 39 v (changesV st) := OwnD.lower (OwnD.kept HO.out (hg3 _) (own_neD HO.out (by omega))) (by omega)
      have hbf : Below w.heap.size w (W2.putObj (w.heap.size + 3) (.deferred none)) := putObj_below HBb.out (by omega)
      exact ⟨_, results_tmp rfl _ _ _, v, rfl, hfin, hbf⟩
end Go.Proofs.Ytnhkadknibinfaa
