/- Walk of picks.Swaps. -/
import Derived.Test.YtmahjgffadbdcaaD2
import Derived.ChangeKeysEq
import Derived.Laws.StructEq
namespace Go.Proofs.Ytmahjgffadbdcaa
open Go.RowKit
set_option linter.unusedVariables false

theorem wpList_load_row_w {P : Program} {ops : Array Oper} {rest : List Oper} {o : Oper} {a : Act} {w : World} {Q : Exit → Act → World → Prop} (hw : Region.wanted o (yielded ops a.tmps) = true) (ty : TypeId) (x : Operand) (ho : o.op = .load ty x)
    (g : Nat) (hx : a.eval x = .pointer (some ⟨g, 0, none⟩)) (t : TypeId) (cs : Array Value) (fr : Nat × Nat) (d : TypeDesc) (hg : w.heap[g]? = some (.cells cs t fr))
    (hu : P.underlying ty = some d) (hd : (match d with | .struct _ | .array _ _ => true | _ => false) = true) (hi : (P.info? ty).map (·.size) = some cs.size)
    (h : wpList P ops Q rest (a.put o.dst (.agg cs)) w) : wpList P ops Q (o :: rest) a w :=
  wpList_step fun K hK => by rw [if_pos hw]; exact wp_load_row ty x ho g hx t cs fr d hg hu hd hi (hK _ _ h)
theorem plain4 : Try.prog.plainKey 4 = true := by kernel_rfl
theorem ex_info4 : ∃ i, Try.prog.info? 4 = some i := ⟨_, rfl⟩
theorem cells4 : Try.prog.cellsOf 4 = 1 := by kernel_rfl
theorem guard51 : Try.prog.eqGuardType Try.prog.depth 51 = false := by kernel_rfl
theorem eq_items (d : Nat) (S T : List Int) (w : World) : ∀ (is : List Nat), (∀ i ∈ is, i < 17) → (Op.eqItems (d + 1) 4 1 (lf S) (lf T) is).run Try.prog w = .ok (is.all fun i => hasB S i == hasB T i) w
  | [], _ => rfl
  | i :: is, h => by
    have pf : ∀ (S : List Int) j (h : j < 17) W, (part 4 (lf S) (j * 1)).run Try.prog W = .ok (.bool (hasB S j)) W := fun S j h W => run_part_plain W plain4 (by rw [Nat.mul_one]; exact lf_get S j h)
    have qf : ∀ (a b : Bool) W, (Op.equalIn (d + 1) 4 (.bool a) (.bool b)).run Try.prog W = .ok (a == b) W := fun a b W => run_equalIn_bool W d 4 a b Try.underlying4
    have hi := h i (by simp)
    simp only [Op.eqItems, Sem.run_bind, pf S i hi, pf T i hi, qf, Result.andThen_ok, List.all_cons]
    cases e : (hasB S i == hasB T i)
    · simp [Sem.run_pure]
    · simp only [Bool.not_true, Bool.false_eq_true, if_false, Bool.true_and]
      exact eq_items d S T w is fun j hj => h j (by simp [hj])
def eqB (S T : List Int) : Bool := (List.range 17).all fun i => hasB S i == hasB T i
theorem nev_lf (S T : List Int) (w : World) : (binOp .neq 51 (.agg (lf S)) (.agg (lf T))).run Try.prog w = .ok (.bool (!eqB S T)) w := by
  have h : (Op.equalIn 10000 51 (.agg (lf S)) (.agg (lf T))).run Try.prog w = .ok (eqB S T) w := by
    obtain ⟨i, hi⟩ := ex_info4
    rw [run_equalIn_array w 9999 _ _ Try.underlying51 hi, cells4]
    exact eq_items 9998 S T w _ fun i hi => by simpa using hi
  rw [run_neq_struct, h]; rfl
theorem eqB_perm {a b : List Int} (ha : OkO a) (hb : OkO b) : eqB a b = decide (a.Perm b) := by
  rw [Bool.eq_iff_iff, decide_eq_true_eq, eqB, List.all_eq_true]
  constructor
  · intro h
    refine (sort_eq_iff ha hb).1 (sort_congr fun p => ?_)
    have key : ∀ q : Nat, q < 17 → ((q : Int) ∈ a ↔ (q : Int) ∈ b) := fun q hq => by
      have := h q (by simpa using hq)
      rw [beq_iff_eq, hasB, hasB, decide_eq_decide] at this; exact this
    constructor
    · intro hp
      obtain ⟨q, rfl⟩ : ∃ q : Nat, p = q := ⟨p.toNat, by have := ha.rng p hp; omega⟩
      exact (key q (by have := ha.rng _ hp; omega)).1 hp
    · intro hp
      obtain ⟨q, rfl⟩ : ∃ q : Nat, p = q := ⟨p.toNat, by have := hb.rng p hp; omega⟩
      exact (key q (by have := hb.rng _ hp; omega)).2 hp
  · intro h i _
    rw [beq_iff_eq, hasB, hasB, decide_eq_decide]; exact h.mem_iff

def okS (a b : List Int) : Bool := okO a && okO b && decide (a.Perm b)
def swE (a b : List Int) : Int := if okS a b then 0 else 2
def swN (a b : List Int) : Nat := if okS a b then swapsV a b else 0

theorem SrcI.drop {w : World} {b off n c : Nat} {l : List Int} (h : SrcI w (.slice (some ⟨b, off, none⟩) n c) l) (m : Nat) (hm : m < l.length) : SrcI w (.slice (some ⟨b, off + m, none⟩) (l.length - m) (c - m)) (l.drop m) := by
  have hc := h.cap
  refine .inr ⟨⟨b, off + m, none⟩, c - m, by rw [List.length_drop], by rw [List.length_drop]; omega, by have := hc.2.2; simp only [maxLen]; omega, fun j hj => ?_⟩
  rw [plain_add, List.getElem_drop]
  obtain ⟨b', off', hbb, _, hx⟩ := h.at (m + j) (by rw [List.length_drop] at hj; omega)
  obtain ⟨rfl, rfl⟩ : b = b' ∧ off = off' := by simpa using hbb
  rw [Nat.add_assoc]; exact hx

set_option maxRecDepth 100000 in
set_option maxHeartbeats 2000000 in
theorem swaps_any (v1 v2 : Value) (l m : List Int) (w : World) (h1 : SrcI w v1 l) (h2 : SrcI w v2 m) : Calls Try.prog 25 #[v1, v2] w fun e w' =>
    e = .returned (.tuple #[.int .i64 (swN l m : Nat), .int .i64 (swE l m)]) ∧ Below w.heap.size w w' := by
  have hsm := h1.small
  have H1 := Hd.mk h1
  have H2 := Hd.mk h2
  obtain ⟨a1, c1, rfl⟩ := h1.shape
  obtain ⟨a2, c2, rfl⟩ := h2.shape
  clear h1 h2
  go_enter Try.func25, Try.ntmps25
  go_wp2_with fail
  refine (of_any _ l _ H1.out).mono ?_
  rintro e w1 ⟨rfl, hB1⟩
  have HB1 := Hd.mk hB1
  have HA1 := Hd.mk (hB1.alloc hB1.size (.cells (lf (ofS l)) 51))
  have HC1 : Hd ((w1.alloc (.cells (lf (ofS l)) 51)).heap[w1.heap.size]? = some (.cells (lf (ofS l)) 51 (0, 0))) := ⟨World.alloc_heap_new _ _⟩
  have hs1 := hB1.size
  obtain ⟨o1, ho1⟩ : ∃ o, okO l = o := ⟨_, rfl⟩
  rw [ho1]
  have HO1 := Hd.mk ho1
  clear ho1 hB1
  go_wp2_with (refine wpList_store_row rfl 51 _ _ rfl w1.heap.size (lf (ofS l)) rfl rfl 51 _ (World.alloc_heap_new _ _) rfl rfl (lf_one _) ?_)
  rw [World.setRow_alloc_new]
  generalize hW : w1.alloc (.cells (lf (ofS l)) 51) = W1 at HA1 HC1 ⊢
  have HL1 : Hd (w1.heap.size < W1.heap.size) := ⟨cells_lt HC1.out⟩
  obtain ⟨g1, hg1⟩ : ∃ g, w1.heap.size = g := ⟨_, rfl⟩
  rw [hg1] at HC1 HL1 hs1 ⊢
  clear hW hg1
  refine (of_any _ m _ (H2.out.below HA1.out)).mono ?_
  rintro e w2 ⟨rfl, hB2⟩
  have hs2 := hB2.size
  have HA2 := Hd.mk ((ch4 HA1.out hB2).alloc (Nat.le_trans HA1.out.size hB2.size) (.cells (lf (ofS m)) 51))
  have HC2 : Hd ((w2.alloc (.cells (lf (ofS m)) 51)).heap[w2.heap.size]? = some (.cells (lf (ofS m)) 51 (0, 0))) := ⟨World.alloc_heap_new _ _⟩
  have HD1 : Hd ((w2.alloc (.cells (lf (ofS m)) 51)).heap[g1]? = some (.cells (lf (ofS l)) 51 (0, 0))) := ⟨(Below.heap_alloc _ _ _ (by have := HL1.out; omega)).trans ((hB2.block _ HL1.out).trans HC1.out)⟩
  obtain ⟨o2, ho2⟩ : ∃ o, okO m = o := ⟨_, rfl⟩
  rw [ho2]
  have HO2 := Hd.mk ho2
  clear ho2 hB2
  cases o1
  · have HN : Hd (swN l m = 0 ∧ swE l m = 2) := ⟨by rw [swN, swE, okS, HO1.out]; exact ⟨rfl, rfl⟩⟩
    go_wp2_with (refine wpList_store_row rfl 51 _ _ rfl w2.heap.size (lf (ofS m)) rfl rfl 51 _ (World.alloc_heap_new _ _) rfl rfl (lf_one _) ?_; rw [World.setRow_alloc_new])
    refine bodyPost_ret (results_tmp2 Try.results25 _ _ _) rfl ?_
    exact ⟨by rw [HN.out.1, HN.out.2]; rfl, HA2.out⟩
  · cases o2
    · have HN : Hd (swN l m = 0 ∧ swE l m = 2) := ⟨by rw [swN, swE, okS, HO1.out, HO2.out]; exact ⟨rfl, rfl⟩⟩
      go_wp2_with (refine wpList_store_row rfl 51 _ _ rfl w2.heap.size (lf (ofS m)) rfl rfl 51 _ (World.alloc_heap_new _ _) rfl rfl (lf_one _) ?_; rw [World.setRow_alloc_new])
      refine bodyPost_ret (results_tmp2 Try.results25 _ _ _) rfl ?_
      exact ⟨by rw [HN.out.1, HN.out.2]; rfl, HA2.out⟩
    · have hl : OkO l := of_decide_eq_true HO1.out
      have hm : OkO m := of_decide_eq_true HO2.out
      have hneq := nev_lf (ofS l) (ofS m)
      have hgd := guard51
      have hes : eqB (ofS l) (ofS m) = decide (l.Perm m) := by rw [ofS, ofS, HO1.out, HO2.out]; exact eqB_perm hl hm
      rw [hes] at hneq
      have HS1 : Hd (okS l m = decide (l.Perm m)) := ⟨by rw [okS, HO1.out, HO2.out]; rfl⟩
      have hlen := hl.len
      have HOL := Hd.mk hl
      have HOM := Hd.mk hm
      clear hes hl hm
      obtain ⟨pm, hpm⟩ : ∃ b, decide (l.Perm m) = b := ⟨_, rfl⟩
      rw [hpm] at hneq HS1
      have HPM := Hd.mk hpm
      clear hpm
      cases pm
      · have HN : Hd (swN l m = 0 ∧ swE l m = 2) := ⟨by rw [swN, swE, HS1.out]; exact ⟨rfl, rfl⟩⟩
        go_wp2_with (first | (refine wpList_store_row rfl 51 _ _ rfl w2.heap.size (lf (ofS m)) rfl rfl 51 _ (World.alloc_heap_new _ _) rfl rfl (lf_one _) ?_; rw [World.setRow_alloc_new]) | (refine wpList_load_row_w rfl 51 (.tmp 6) rfl _ rfl 51 _ (0, 0) _ HD1.out Try.underlying51 rfl (by kernel_rfl) ?_) | (refine wpList_load_row_w rfl 51 (.tmp 8) rfl _ rfl 51 _ (0, 0) _ HC2.out Try.underlying51 rfl (by kernel_rfl) ?_))
        refine bodyPost_ret (results_tmp2 Try.results25 _ _ _) rfl ?_
        exact ⟨by rw [HN.out.1, HN.out.2]; rfl, HA2.out⟩
      · have HN : Hd (swN l m = swapsV l m ∧ swE l m = 0) := ⟨by rw [swN, swE, HS1.out]; exact ⟨rfl, rfl⟩⟩
        go_wp2_with (first | (refine wpList_store_row rfl 51 _ _ rfl w2.heap.size (lf (ofS m)) rfl rfl 51 _ (World.alloc_heap_new _ _) rfl rfl (lf_one _) ?_; rw [World.setRow_alloc_new]) | (refine wpList_load_row_w rfl 51 (.tmp 6) rfl _ rfl 51 _ (0, 0) _ HD1.out Try.underlying51 rfl (by kernel_rfl) ?_) | (refine wpList_load_row_w rfl 51 (.tmp 8) rfl _ rfl 51 _ (0, 0) _ HC2.out Try.underlying51 rfl (by kernel_rfl) ?_))
        generalize w2.alloc (.cells (lf (ofS m)) 51) = W2 at HA2 HC2 HD1 ⊢
        have HP : Hd (l.Perm m) := ⟨of_decide_eq_true HPM.out⟩
        have HPOS : Hd (swapsV l m = inv (l.map m.idxOf)) := ⟨rfl⟩
        have HPL : Hd ((l.map m.idxOf).length = l.length) := ⟨by simp⟩
        have HPG : Hd (∀ k (hk : k < l.length), ∃ h : k < (l.map m.idxOf).length, (l.map m.idxOf)[k] = m.idxOf l[k] ∧ idxV m l[k] = (m.idxOf l[k] : Nat)) := ⟨fun k hk => ⟨by simpa using hk, by simp, by
          rw [idxV, if_pos (HP.out.subset (List.getElem_mem hk))]⟩⟩
        have HIV : Hd (inv (l.map m.idxOf) ≤ 120) := ⟨by
          have := swaps_le l m
          have h2 : l.length * (l.length - 1) ≤ 16 * 15 := Nat.mul_le_mul hlen (by omega)
          rw [swapsV] at this; omega⟩
        have HM := Hd.mk (H2.out.below HA2.out)
        have HLL := Hd.mk (H1.out.below HA2.out)
        generalize l.map m.idxOf = pos at HPOS HPL HPG HIV
        go_loop [10, 38] (fun n i => ∃ k N : Nat, k ≤ l.length ∧ i = .int .i64 k ∧ n = .int .i64 N ∧ Hd (N + inv (pos.drop k) = inv pos)) (fun _ i => l.length - (intOf i).toNat)
        case atStart => exact ⟨0, 0, by omega, rfl, rfl, ⟨by simp⟩⟩
        case round =>
          obtain ⟨k, N, hk, rfl, rfl, HNI⟩ := hrel
          by_cases hlt : k < l.length
          · obtain ⟨b, off, rfl, hb, hx⟩ := HLL.out.at k hlt
            have hcap := HLL.out.cap
            obtain ⟨hkp, hpk, hik⟩ := HPG.out k hlt
            have HST : Hd (N + (pos.drop (k + 1)).countP (fun y => decide (y < pos[k])) + inv (pos.drop (k + 1)) = inv pos) := ⟨by
              have := inv_drop k hkp
              have := HNI.out; omega⟩
            have HNB : Hd (N ≤ 120) := ⟨by have := HIV.out; have := HNI.out; omega⟩
            obtain ⟨x, hxe⟩ : ∃ x, pos[k] = x := ⟨_, rfl⟩
            rw [hxe] at HST hpk
            rw [← hpk] at hik
            have HIK := Hd.mk hik
            have k0 : (0 : Int) ≤ (k : Int) := by omega
            have k1 : (k : Int) < (l.length : Int) := by omega
            have k2 : (k : Int) + 1 ≤ (c1 : Int) := by omega
            have k3 : (0 : Int) ≤ (k : Int) + 1 := by omega
            have hcb := hcap.2.2
            have hcc := hcap.2.1
            clear hpk hik hxe hcap
            generalize l[k] = p at hx HIK
            by_cases hlast : k + 1 < l.length
            · have k4 : ¬ c1 = k + 1 := by omega
              have HSR := Hd.mk (HLL.out.drop (k + 1) hlast)
              clear hlt
              go_wp2_with fail
              go_loop [10, 48] (fun n i => ∃ j N2 : Nat, j ≤ l.length - (k + 1) ∧ i = .int .i64 j ∧ n = .int .i64 N2 ∧ Hd (N2 + (pos.drop (k + 1 + j)).countP (fun y => decide (y < x)) + inv (pos.drop (k + 1)) = inv pos)) (fun _ i => l.length - (intOf i).toNat)
              case atStart => exact ⟨0, N, by omega, rfl, rfl, HST⟩
              case round =>
                obtain ⟨j, N2, hj, rfl, rfl, HJ⟩ := hrel
                by_cases hjl : j < l.length - (k + 1)
                · obtain ⟨b', off', hbb, hb', hy⟩ := HSR.out.at j (by rw [List.length_drop]; exact hjl)
                  obtain ⟨rfl, rfl⟩ : b = b' ∧ off + (k + 1) = off' := by simpa using hbb
                  obtain ⟨hkj, hpj, hij⟩ := HPG.out (k + 1 + j) (by omega)
                  have HCD := Hd.mk (count_drop (fun y => decide (y < x)) (k + 1 + j) hkj)
                  rw [List.getElem_drop] at hy
                  obtain ⟨y, hye⟩ : ∃ y, pos[k + 1 + j] = y := ⟨_, rfl⟩
                  rw [hye] at HCD hpj
                  rw [← hpj] at hij
                  have HIJ := Hd.mk hij
                  have HN2 : Hd (N2 ≤ 120) := ⟨by have := HIV.out; have := HJ.out; omega⟩
                  have j0 : (0 : Int) ≤ (j : Int) := by omega
                  have j1 : (j : Int) < ((l.length - (k + 1) : Nat) : Int) := by omega
                  clear hbb hpj hij hye
                  generalize l[k + 1 + j] = q at hy HIJ
                  go_wp2_with fail
                  refine (index_any _ m p _ HM.out).mono ?_
                  rintro e w5 ⟨rfl, rfl⟩
                  rw [HIK.out]
                  go_wp2_with fail
                  refine (index_any _ m q _ HM.out).mono ?_
                  rintro e w5 ⟨rfl, rfl⟩
                  rw [HIJ.out]
                  have hn2 := HN2.out
                  by_cases hyx : y < x
                  · have HNX : Hd (N2 + 1 + (pos.drop (k + 1 + (j + 1))).countP (fun y => decide (y < x)) + inv (pos.drop (k + 1)) = inv pos) := ⟨by
                      have h1 := HCD.out; have h2 := HJ.out
                      rw [if_pos (decide_eq_true hyx)] at h1
                      rw [show k + 1 + (j + 1) = k + 1 + j + 1 by omega]; omega⟩
                    have hd : decide (y < x) = true := decide_eq_true hyx
                    clear HCD HJ
                    go_wp2_with fail
                    go_round
                    case rel => exact ⟨j + 1, N2 + 1, by omega, by go_num, by go_num, HNX⟩
                    case measure => simp [intOf]; omega
                  · have HNX : Hd (N2 + (pos.drop (k + 1 + (j + 1))).countP (fun y => decide (y < x)) + inv (pos.drop (k + 1)) = inv pos) := ⟨by
                      have h1 := HCD.out; have h2 := HJ.out
                      rw [if_neg (by simpa using hyx)] at h1
                      rw [show k + 1 + (j + 1) = k + 1 + j + 1 by omega]; omega⟩
                    have hd : decide (y < x) = false := decide_eq_false hyx
                    clear HCD HJ
                    go_wp2_with fail
                    go_round
                    case rel => exact ⟨j + 1, N2, by omega, by go_num, by go_num, HNX⟩
                    case measure => simp [intOf]; omega
                · have HNX : Hd (N2 + inv (pos.drop (k + 1)) = inv pos) := ⟨by
                    have h := HJ.out
                    rw [show pos.drop (k + 1 + j) = [] from List.drop_eq_nil_of_le (by have := HPL.out; omega)] at h
                    simpa using h⟩
                  have hge : ¬ (j : Int) < ((l.length - (k + 1) : Nat) : Int) := by omega
                  clear HJ
                  go_wp2_with fail
                  go_round
                  case rel => exact ⟨k + 1, N2, by omega, by go_num, rfl, HNX⟩
                  case measure => simp [intOf]; omega
            · have HNX : Hd (N + inv (pos.drop (k + 1)) = inv pos) := ⟨by
                have h := HST.out
                rw [show pos.drop (k + 1) = [] from List.drop_eq_nil_of_le (by have := HPL.out; omega)] at h ⊢
                simpa using h⟩
              have hz : l.length - (k + 1) = 0 := by omega
              by_cases k4 : c1 = k + 1
              all_goals
                go_wp2_with fail
                go_loop [10, 48] (fun n i => i = .int .i64 0 ∧ n = .int .i64 N) (fun _ _ => 0)
                case atStart => exact ⟨rfl, rfl⟩
                case round =>
                  obtain ⟨rfl, rfl⟩ := hrel
                  go_wp2_with fail
                  go_round
                  case rel => first | exact ⟨k + 1, N, by omega, by go_num, rfl, HNX⟩ | exact ⟨_, _, _, _, _, ⟨k + 1, by omega, rfl, N, rfl, HNX⟩, rfl, rfl, rfl, rfl, rfl⟩
                  case measure => simp [intOf]; omega
          · obtain rfl : k = l.length := by omega
            have HEND : Hd (swapsV l m = N) := ⟨by
              have h := HNI.out
              rw [show pos.drop l.length = [] from List.drop_eq_nil_of_le (by have := HPL.out; omega)] at h
              rw [HPOS.out]; simpa [inv] using h.symm⟩
            go_wp2_with fail
            refine bodyPost_ret (results_tmp2 Try.results25 _ _ _) rfl ?_
            exact ⟨by rw [HN.out.1, HN.out.2, HEND.out]; rfl, HA2.out⟩
end Go.Proofs.Ytmahjgffadbdcaa
