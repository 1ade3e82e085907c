/- Walk of picks.Nth. -/
import Derived.Test.YtmahjgffadbdcaaD1
namespace Go.Proofs.Ytmahjgffadbdcaa
open Go.RowKit Go.Shelf
attribute [local go_sem] Oper.semAt_some
set_option linter.unusedVariables false

theorem make_i (w : World) (n : Nat) (hn : n ≤ 100000) : ∃ w', (Instr.makeSlice 24 (.int .i64 (n : Int)) (.int .i64 (n : Int))).run Try.prog w = .ok (.slice (some ⟨w.heap.size, 0, none⟩) n n) w' ∧
    RowF w' w.heap.size n (fun _ => 0) ∧ Below w.heap.size w w' := by
  obtain ⟨i, z, hi, hz, hzs, hsz, hby⟩ := info3
  obtain ⟨i', hi', hz', hs', hb'⟩ := info_parts (P := Try.prog) (e := 3) (z := .int .i64 0) (size := 1) (bytes := 8) (by kernel_rfl)
  obtain ⟨w', hrun, hown, hg⟩ := run_make_full (P := Try.prog) (w := w) w.heap.size 24 3 i' (.int .i64 0) 1 Try.underlying24 hi' hz' hs' .i64 .i64 n (by rw [hb']; omega) (by simp only [maxLen]; omega) (Nat.le_refl _)
  refine ⟨w', hrun, ?_, ⟨hg.os, hg.tape, hg.output, hg.size, fun k hk => hg.block k hk (by simp)⟩⟩
  rcases hown.2 with ⟨h, _⟩ | ⟨g, cap, cur, hv, hgb, hh, hc, hm, hcs, hcur⟩
  · cases h
  · simp only [Value.slice.injEq, Option.some.injEq, Addr.mk.injEq] at hv
    obtain ⟨⟨rfl, _⟩, _, rfl⟩ := hv
    refine ⟨cells_lt hh, fun j hj => ?_, fun j => cells_free hh j⟩
    rw [cells_cell hh]
    have h1 : cur.toList[j]? = (madeCells (Value.int .i64 0).cells (n * 1)).toList[j]? := by
      rw [← hcur, List.getElem?_take_of_lt (by omega)]
    rw [Array.getElem?_toList] at h1
    rw [h1]
    simp [madeCells, Value.cells, hj]
    rw [Nat.mod_one]; rfl

theorem dig_get (n : Nat) (S : List Int) (r : Nat) : digV (n + 1) S r = S.getD (digit n r) 0 :: digV n (S.eraseIdx (digit n r)) r := rfl
/-- What is no row of cells stays, where cells are written. -/
def KeepO (W W' : World) : Prop := ∀ (k : Nat) (o : Obj), W.heap[k]? = some o → (∀ c t f, o ≠ .cells c t f) → W'.heap[k]? = some o
theorem KeepO.trans {A B C : World} (h : KeepO A B) (k : KeepO B C) : KeepO A C := fun r o hr ho => k r o (h r o hr ho) ho
theorem KeepO.setCell {A : World} {g o : Nat} {c : Array Value} {t : TypeId} {f : Nat × Nat} (h : A.heap[g]? = some (.cells c t f)) (v : Value) : KeepO A (A.setCell ⟨g, o, none⟩ v) := fun r ob hr ho =>
  (Below.heap_setCell _ _ _ _ (by rintro rfl; rw [h] at hr; cases hr; exact ho _ _ _ rfl)).trans hr
theorem KeepO.alloc (A : World) (o : Obj) : KeepO A (A.alloc o) := fun r ob hr _ => (Below.heap_alloc _ _ _ (cells_lt hr)).trans hr
theorem KeepO.grown {w w' : World} {base : Nat} {v : Value} {xs : List Int} (h : AppI w base v xs) (hg : w.grownBy w' v.ownBlock) : KeepO w w' := fun r ob hr ho =>
  (hg.block r (cells_lt hr) (fun e => by
    obtain ⟨c, hc⟩ := app_block h e.symm
    rw [hc] at hr; cases hr; exact ho _ _ _ rfl)).trans hr
theorem grown_putObj (W : World) (l : Nat) (o : Obj) : W.grownBy (W.putObj l o) (some l) := ⟨rfl, rfl, rfl, by simp, fun k _ hn => World.putObj_heap_other (fun e => hn (by rw [e]))⟩
theorem OF.putLoop {w : World} {G N n : Nat} {S out : List Int} {vo : Value} {ds : List Deferred} {W : World} (h : OF w G N n S out vo ds W) {r : Loop} {l : Nat} (hl : W.heap[l]? = some (.loop r)) (hb : w.heap.size ≤ l) (o : Obj) : OF w G N n S out vo ds (W.putObj l o) := by
  refine ⟨h.len, h.asc, h.rng, (World.putObj_heap_other (by rintro rfl; rw [h.left] at hl; cases hl)).trans h.left, ?_, h.outl, putObj_below h.bel hb, h.mks.keep (KeepD.putObj hl)⟩
  refine OwnE.kept h.own (grown_putObj _ _ _) (.inr fun e => ?_)
  obtain ⟨c, hc⟩ := app_block h.own e
  rw [hc] at hl; cases hl
theorem OF.push {w : World} {G B N n : Nat} {S out : List Int} {vo : Value} {ds : List Deferred} {W : World} (h : OF w G N (n + 1) S out vo ds W) (hG : w.heap.size ≤ G) (hB : w.heap.size ≤ B) (hN : N ≤ 16) (hb : W.heap[B]? = some (.cells #[vo] 24 (0, 0)))
    {i q : Nat} (hi : i < S.length) (hq : S[i] = (q : Int)) :
    ∃ g' m' cap' w2, (Builtin.append_ #[24, 24] 24 #[vo, .slice (some ⟨W.heap.size, 0, none⟩) 1 1]).run Try.prog (W.alloc (.cells #[.int .i64 (q : Int)] 3)) = .ok (.slice (some ⟨g', 0, none⟩) m' cap') w2 ∧
      w2.heap[B]? = some (.cells #[vo] 24 (0, 0)) ∧ w2.heap[G]? = some (.cells (lf S) 51 (0, 0)) ∧
      OF w G N n (S.eraseIdx i) (out ++ [(q : Int)]) (.slice (some ⟨g', 0, none⟩) m' cap') ds ((w2.setCell ⟨B, 0, none⟩ (.slice (some ⟨g', 0, none⟩) m' cap')).setCell ⟨G, q, none⟩ (.bool false)) ∧
      KeepO W ((w2.setCell ⟨B, 0, none⟩ (.slice (some ⟨g', 0, none⟩) m' cap')).setCell ⟨G, q, none⟩ (.bool false)) ∧
      ((w2.setCell ⟨B, 0, none⟩ (.slice (some ⟨g', 0, none⟩) m' cap')).setCell ⟨G, q, none⟩ (.bool false)).heap[B]? = some (.cells #[.slice (some ⟨g', 0, none⟩) m' cap'] 24 (0, 0)) := by
  have hneG : vo.ownBlock ≠ some G := fun e => by
    obtain ⟨c, hc⟩ := app_block h.own e
    rw [h.left] at hc; cases hc
  have hneB : vo.ownBlock ≠ some B := fun e => by
    obtain ⟨c, hc⟩ := app_block h.own e
    rw [hb] at hc; cases hc
  have hGB : G ≠ B := by rintro rfl; have := h.left; rw [hb] at this; cases this
  have hq17 : q < 17 := by have := h.rng _ (List.getElem_mem hi); rw [hq] at this; omega
  obtain ⟨v', w2, hr, ho, hB2, hg2⟩ := push_i (q : Int) h.own h.bel h.bel.size (by have := h.outl; omega)
  have hsh : ∃ g' m' cap', v' = .slice (some ⟨g', 0, none⟩) m' cap' := by
    rcases OwnE.cases ho with ⟨_, h0⟩ | ⟨g', cap', hv, _⟩
    · simp at h0
    · exact ⟨g', _, cap', hv⟩
  obtain ⟨g', m', cap', rfl⟩ := hsh
  have hnew : (W.alloc (.cells #[.int .i64 (q : Int)] 3)).heap.size = W.heap.size + 1 := World.size_alloc _ _
  have kB : w2.heap[B]? = some (.cells #[vo] 24 (0, 0)) := (hg2.block B (by rw [hnew]; have := cells_lt hb; omega) (fun e => hneB e.symm)).trans ((Below.heap_alloc _ _ _ (cells_lt hb)).trans hb)
  have kG : w2.heap[G]? = some (.cells (lf S) 51 (0, 0)) := (hg2.block G (by rw [hnew]; have := cells_lt h.left; omega) (fun e => hneG e.symm)).trans ((Below.heap_alloc _ _ _ (cells_lt h.left)).trans h.left)
  have k1 : (w2.setCell ⟨B, 0, none⟩ (.slice (some ⟨g', 0, none⟩) m' cap')).heap[G]? = some (.cells (lf S) 51 (0, 0)) := (Below.heap_setCell _ _ _ _ hGB).trans kG
  have hownG : (Value.slice (some ⟨g', 0, none⟩) m' cap').ownBlock ≠ some G := fun e => by
    obtain ⟨c, hc⟩ := app_block ho e
    rw [kG] at hc; cases hc
  have hownB : (Value.slice (some ⟨g', 0, none⟩) m' cap').ownBlock ≠ some B := fun e => by
    obtain ⟨c, hc⟩ := app_block ho e
    rw [kB] at hc; cases hc
  refine ⟨g', m', cap', w2, hr, kB, kG, ⟨?_, h.asc.erase i, fun p hp => h.rng p (List.mem_of_mem_eraseIdx hp), ?_, ?_, by rw [List.length_append]; have := h.outl; simp; omega, (hB2.setCell hB _).setCell hG _, ?_⟩, ?_, ?_⟩
  · rw [List.length_eraseIdx, if_pos hi]; have := h.len; omega
  · rw [← lf_set q hq17 false (has_del (T := S.eraseIdx i) fun p => by rw [← hq]; exact erase_mem h.asc.nodup i hi p)]
    exact cells_set k1 _
  · exact OwnE.kept (OwnE.kept ho (grown_set _ _ _ _) (.inr hownB)) (grown_set _ _ _ _) (.inr hownG)
  · exact h.mks.keep ((KeepD.alloc _ _).trans ((KeepD.grown (OwnE.alloc h.own _) hg2).trans ((KeepD.setCell kB _).trans (KeepD.setCell k1 _))))
  · exact (KeepO.alloc _ _).trans ((KeepO.grown (OwnE.alloc h.own _) hg2).trans ((KeepO.setCell kB _).trans (KeepO.setCell k1 _)))
  · exact (Below.heap_setCell _ _ _ _ (Ne.symm hGB)).trans (cells_set kB _)

def ntE (l : List Int) (r : Int) : Int := if rightB l && decide (0 ≤ r) then (if r < fac l.length then 0 else 6) else 2
def ntO (l : List Int) (r : Int) : List Int := if rightB l && decide (0 ≤ r) then (if r < fac l.length then nthV l.length l r.toNat else []) else []

set_option maxRecDepth 100000 in
set_option maxHeartbeats 1000000 in
theorem nth_bad (v : Value) (l : List Int) (r : Int) (w : World) (h : SrcI w v l) (hb : ¬ (rightB l = true ∧ 0 ≤ r)) : Calls Try.prog 22 #[v, .int .i64 r] w fun e w' =>
    e = .returned (.tuple #[.slice none 0 0, .int .i64 2]) ∧ Below w.heap.size w w' := by
  have H := Hd.mk h
  obtain ⟨a, c, rfl⟩ := h.shape
  clear h
  go_enter Try.func22, Try.ntmps22
  go_wp2_with fail
  refine (right_any _ l _ H.out).mono ?_
  rintro e w1 ⟨rfl, hB⟩
  cases hr : rightB l
  · clear hr hb
    go_wp2_with fail
    refine bodyPost_ret (results_tmp2 Try.results22 _ _ _) rfl ?_
    exact ⟨rfl, hB⟩
  · have hr0 : r < 0 := by
      rcases Int.lt_or_le r 0 with h | h
      · exact h
      · exact absurd ⟨hr, h⟩ hb
    clear hr hb
    have hd : decide (r < 0) = true := decide_eq_true hr0
    go_wp2_with fail
    refine bodyPost_ret (results_tmp2 Try.results22 _ _ _) rfl ?_
    exact ⟨rfl, hB⟩

set_option maxRecDepth 100000 in
set_option maxHeartbeats 4000000 in
theorem nth_good (v : Value) (l : List Int) (rn : Nat) (w : World) (h : SrcI w v l) (hr : rightB l = true) (hrn : rn ≤ 9223372036854775807) : Calls Try.prog 22 #[v, .int .i64 (rn : Int)] w fun e w' =>
    ∃ v', e = .returned (.tuple #[v', .int .i64 (ntE l rn)]) ∧ OwnI w' w.heap.size v' (ntO l rn) ∧ Below w.heap.size w w' := by
  have hok : okO l = true := by rw [rightB, Bool.and_eq_true] at hr; exact hr.1
  have hasc : asc l := by rw [rightB, Bool.and_eq_true] at hr; exact of_decide_eq_true hr.2
  have hO : OkO l := of_decide_eq_true hok
  have hlen := hO.len
  have H := Hd.mk h
  have HOF : Hd (ofS l = l) := ⟨by rw [ofS, hok]; rfl⟩
  have HOK := Hd.mk hO
  have HASC := Hd.mk hasc
  have HR := Hd.mk hr
  have HOKB := Hd.mk hok
  have HE : Hd (ntE l rn = (if (rn : Int) < fac l.length then 0 else 6) ∧ ntO l rn = (if (rn : Int) < fac l.length then nthV l.length l rn else [])) := ⟨by
    rw [ntE, ntO, hr, show decide (0 ≤ (rn : Int)) = true from decide_eq_true (by omega)]; exact ⟨rfl, rfl⟩⟩
  obtain ⟨a, c, rfl⟩ := h.shape
  clear h hr hO hasc hok
  refine (callsIn_wide (n := 0)).1 ?_
  refine callsIn_of_wp_marks Try.func22 rfl trivial ?_
  simp only [Try.ntmps22, List.size_toArray, List.length_cons, List.length_nil, Nat.reduceAdd, Nat.reduceSub, Array.replicate_succ, Array.replicate_zero, List.push_toArray, List.append_toArray, List.nil_append, List.cons_append]
  have i00 : (0 : Int) ≤ (rn : Int) := by omega
  have d00 : decide ((rn : Int) < 0) = false := decide_eq_false (by omega)
  gi_wp2_with fail
  refine (callsIn_wide.2 (right_any _ l _ H.out)).mono ?_
  rintro e w1 ⟨rfl, hB1⟩
  rw [HR.out]
  obtain ⟨w2, hmk, hrow, hB2⟩ := make_i w1 l.length (by omega)
  have HROW := Hd.mk hrow
  have HB2 := Hd.mk hB2
  have HBL := Hd.mk (ch4 hB1 hB2)
  have hgs : w.heap.size ≤ w1.heap.size := hB1.size
  clear hrow hB2 hB1
  gi_wp2_with fail
  obtain ⟨g, hg⟩ : ∃ g, w1.heap.size = g := ⟨_, rfl⟩
  rw [hg] at HROW hgs ⊢
  clear hmk hg
  gi_loopw [1, 26] (fun q i W => ∃ k : Nat, k ≤ l.length ∧ i = .int .i64 k ∧ q = .int .i64 ((rn / fac k : Nat) : Int) ∧ RowF W g l.length (fun j => if l.length ≤ j + k then (digit (l.length - 1 - j) rn : Int) else 0) ∧ Below w.heap.size w W) (fun _ i _ => l.length - (intOf i).toNat)
  case atStart => exact ⟨0, by omega, rfl, by simp [fac], HROW.out.congr fun j hj => by rw [if_neg (by omega)], HBL.out⟩
  case round =>
    obtain ⟨k, hk, rfl, rfl, hRW, hB⟩ := hrel
    by_cases hlt : k < l.length
    · obtain ⟨m, hm⟩ : ∃ m, l.length - 1 - k = m := ⟨_, rfl⟩
      have hml : m < l.length := by omega
      have hc := hRW.cell m hml
      have hf := hRW.free m
      have HRW := Hd.mk hRW
      have HDG : Hd (digit k rn = rn / fac k % (k + 1)) := ⟨rfl⟩
      have HFD : Hd (rn / fac k / (k + 1) = rn / fac (k + 1)) := ⟨fac_div k rn⟩
      have hqb : rn / fac k ≤ 9223372036854775807 := Nat.le_trans (Nat.div_le_self _ _) hrn
      obtain ⟨q, hq⟩ : ∃ q, rn / fac k = q := ⟨_, rfl⟩
      rw [hq] at HDG HFD hqb ⊢
      have HM := Hd.mk hm
      obtain ⟨q2, hq2⟩ : ∃ q2, q / (k + 1) = q2 := ⟨_, rfl⟩
      obtain ⟨q3, hq3⟩ : ∃ q3, q % (k + 1) = q3 := ⟨_, rfl⟩
      have hqd : (q : Int) / ((k : Int) + 1) = (q2 : Int) := by rw [← hq2]; rfl
      have hqm : (q : Int) % ((k : Int) + 1) = (q3 : Int) := by rw [← hq3]; rfl
      have hb2 : q2 ≤ 9223372036854775807 := by rw [← hq2]; exact Nat.le_trans (Nat.div_le_self _ _) hqb
      have hb3 : q3 ≤ 9223372036854775807 := by rw [← hq3]; exact Nat.le_trans (Nat.mod_le _ _) hqb
      rw [hq2] at HFD
      rw [hq3] at HDG
      have e1 : (l.length : Int) - 1 - (k : Int) = (m : Int) := by omega
      have k0 : (0 : Int) ≤ (k : Int) := by omega
      have k1 : (k : Int) + 1 ≤ 17 := by omega
      have q0 : (0 : Int) ≤ (q : Int) := by omega
      have q1 : (q : Int) ≤ 9223372036854775807 := by omega
      have m0 : (0 : Int) ≤ (m : Int) := by omega
      have m1 : (m : Int) < (l.length : Int) := by omega
      clear hRW hm hq hq2 hq3
      gi_wp2_with fail
      go_roundw
      case rel =>
        have hm := HM.out
        refine ⟨k + 1, by omega, by go_num, by rw [HFD.out], (HRW.out.set m hml (q3 : Int)).congr fun j hj => ?_, hB.setCell hgs _⟩
        by_cases e : j = m
        · subst e; rw [if_pos rfl, if_pos (by omega), show l.length - 1 - j = k by omega, HDG.out]
        · simp only [if_neg e]
          by_cases h1 : l.length ≤ j + k
          · rw [if_pos h1, if_pos (by omega)]
          · rw [if_neg h1, if_neg (by omega)]
      case measure => simp [intOf]; omega
    · obtain rfl : k = l.length := by omega
      have HRW : Hd (RowF wr g l.length (fun j => (digit (l.length - 1 - j) rn : Int))) := ⟨hRW.congr fun j hj => by rw [if_pos (by omega)]⟩
      have HQ : Hd (rn / fac l.length = 0 ↔ (rn : Int) < fac l.length) := ⟨by
        have hp := fac_pos l.length
        rw [Nat.div_eq_zero_iff]; omega⟩
      obtain ⟨q, hq⟩ : ∃ q, rn / fac l.length = q := ⟨_, rfl⟩
      rw [hq] at HQ ⊢
      clear hRW hq
      rcases Nat.eq_zero_or_pos q with rfl | hq
      · have HN : Hd (ntE l rn = 0 ∧ ntO l rn = nthV l.length l rn) := ⟨by rw [HE.out.1, HE.out.2, if_pos (HQ.out.1 rfl), if_pos (HQ.out.1 rfl)]; exact ⟨rfl, rfl⟩⟩
        have HLT : Hd (rn < fac l.length) := ⟨by have := HQ.out.1 rfl; omega⟩
        gi_wp2_with fail
        refine (callsIn_wide.2 (of_any _ l _ (H.out.below hB))).mono ?_
        rintro e w4 ⟨rfl, hB4⟩
        rw [HOKB.out, HOF.out]
        have HBB := Hd.mk (ch4 hB hB4)
        have HRW4 := Hd.mk (HRW.out.below hB4)
        have hgl := HRW.out.lt
        have hgl4 := hB4.size
        clear hB hB4
        gi_wp2_with (refine wpListIn_store_row rfl 51 _ _ rfl w4.heap.size (lf l) rfl rfl 51 _ (World.alloc_heap_new _ _) rfl rfl (lf_one _) ?_)
        rw [World.setRow_alloc_new]
        obtain ⟨W1, hW1⟩ : ∃ W1, (w4.alloc (.cells (lf l) 51)).alloc (.cells #[.slice none 0 0] 24) = W1 := ⟨_, rfl⟩
        have hB41 : Below w4.heap.size w4 W1 := by rw [← hW1]; exact ((Below.refl _ _).alloc (Nat.le_refl _) _).alloc (by simp) _
        have hOF : OF w4 w4.heap.size l.length l.length l [] (.slice none 0 0) [] W1 :=
          ⟨rfl, HASC.out, HOK.out.rng, by rw [← hW1]; exact (Below.heap_alloc _ _ _ (by simp)).trans (World.alloc_heap_new _ _), OwnE.nil _ _ _ _, by simp, hB41, Mks.nil _ _⟩
        have hBX : W1.heap[w4.heap.size + 1]? = some (.cells #[.slice none 0 0] 24 (0, 0)) := by rw [← hW1]; exact two_new _ _ _
        rw [hW1]
        clear hW1
        obtain ⟨G, hG⟩ : ∃ G, w4.heap.size = G := ⟨_, rfl⟩
        have HG := Hd.mk hG
        rw [hG] at hOF hBX hgl4 ⊢
        clear hG
        have HOFX := Hd.mk hOF
        have HBX := Hd.mk hBX
        have HDIG : Hd (nthV l.length l rn = digV l.length l rn) := ⟨nth_dig _ _ _ HLT.out⟩
        clear hOF hBX hB41
        refine wpIn_loop (fun a' W' => ∃ x12 x13 x55 x56 x57 x58 x59 x60 x61 x62 x63 x64 x65 x66 x67 x68 x69 x70, ∃ (k n : Nat) (S out : List Int) (vo : Value) (ds : List Deferred), k + n = l.length ∧
            OF w4 G l.length n S out vo ds W' ∧ W'.heap[G + 1]? = some (.cells #[vo] 24 (0, 0)) ∧ Hd (nthV l.length l rn = out ++ digV n S rn) ∧
            a' = { tmps := #[.slice a l.length c, .int .i64 0, undef, undef, .slice none 0 0, .int .i64 0, .slice (some ⟨g, 0, none⟩) l.length l.length, u7, .pointer (some ⟨G, 0, none⟩), .bool true, .pointer (some ⟨G + 1, 0, none⟩), undef, x12, x13, .slice a l.length c, .bool true, .bool false, .bool false, .int .i64 rn, .bool false, .bool false, .slice a l.length c, .int .i64 l.length, .slice (some ⟨g, 0, none⟩) l.length l.length, .slice (some ⟨g, 0, none⟩) l.length l.length, .int .i64 l.length, .int .i64 l.length, .bool false, u28, u29, u30, u31, u32, u33, u34, u35, u36, u37, u38, u39, u40, u41, u42, u43, u44, .int .i64 0, .bool false, .tuple #[.agg (lf l), .bool true], .slice a l.length c, .tuple #[.agg (lf l), .bool true], .agg (lf l), .bool true, .slice (some ⟨g, 0, none⟩) l.length l.length, .int .i64 l.length, .int .i64 (k : Nat), x55, x56, x57, x58, x59, x60, x61, x62, x63, x64, x65, x66, x67, x68, x69, x70, undef], defers := ds })
          (fun a' _ => l.length - (intOf (a'.tmps.getD 54 undef)).toNat) ?_ ?_
        · exact ⟨_, _, _, _, _, _, _, _, _, _, _, _, _, _, _, _, _, _, 0, l.length, l, [], .slice none 0 0, [], by omega, HOFX.out, HBX.out, ⟨by rw [HDIG.out]; rfl⟩, rfl⟩
        · rintro _ wr ⟨x12, x13, x55, x56, x57, x58, x59, x60, x61, x62, x63, x64, x65, x66, x67, x68, x69, x70, k, n, S, out, vo, ds, hkn, hF, hBx, HEQ, rfl⟩
          rcases n with _ | n
          · have hF' := hF
            have HF := Hd.mk hF
            have HBx := Hd.mk hBx
            have hcb := cells_cell hBx 0
            obtain rfl : k = l.length := by omega
            have HOUT : Hd (nthV l.length l rn = out) := ⟨by rw [HEQ.out]; simp [digV]⟩
            clear hF hF' hBx HEQ
            gi_wp2_with fail
            refine HF.out.mks.leaves fun W' hk hb => ?_
            refine ⟨_, results_tmp2 Try.results22 _ _ _, vo, by rw [HN.out.1]; rfl, ?_, ?_⟩
            · rw [HN.out.2, HOUT.out]
              rcases own_marks HF.out.own hk with h | ⟨g', cap', h1, h2, h3⟩
              · exact .inl h
              · exact .inr ⟨g', cap', h1, Nat.le_trans HBB.out.size h2, h3⟩
            · exact HBB.out.trans ((HF.out.bel.trans hb).mono HBB.out.size)
          · have hSl : S.length = n + 1 := hF.len
            have HD2 : Hd (digit n rn ≤ n) := ⟨digit_le n rn⟩
            have hRW := (HRW4.out.below hF.bel).cell k (by omega)
            rw [show l.length - 1 - k = n by omega] at hRW
            have HDG := Hd.mk (dig_get n S rn)
            obtain ⟨d, hd⟩ : ∃ d, digit n rn = d := ⟨_, rfl⟩
            rw [hd] at hRW HDG HD2
            have hdS : d < S.length := by have := HD2.out; omega
            obtain ⟨q, hq⟩ : ∃ q : Nat, S[d] = q := ⟨S[d].toNat, by have := hF.rng _ (List.getElem_mem hdS); omega⟩
            have HQ := Hd.mk hq
            have HNX : Hd (nthV l.length l rn = (out ++ [(q : Int)]) ++ digV n (S.eraseIdx d) rn) := ⟨by
              rw [HEQ.out, HDG.out, List.getD_eq_getElem?_getD, List.getElem?_eq_getElem hdS, Option.getD_some, hq, List.append_assoc]; rfl⟩
            have HF := Hd.mk hF
            have HBx := Hd.mk hBx
            have k0 : (0 : Int) ≤ (k : Int) := by omega
            have k1 : (k : Int) < (l.length : Int) := by omega
            clear hd hq hF hBx HEQ HDG
            gi_wp2_with fail
            refine (callsIn_wide.2 (all_any _ _)).mono ?_
            rintro e w5 ⟨rfl, rfl⟩
            gi_wp2_with fail
            have hB5 : Below wr.heap.size wr ((wr.alloc (.cells #[.int .i64 (d : Int)] 3)).alloc (.cells #[.pointer (some ⟨G, 0, none⟩)] 69)) := ((Below.refl _ _).alloc (Nat.le_refl _) _).alloc (by simp) _
            have hN0 : ((wr.alloc (.cells #[.int .i64 (d : Int)] 3)).alloc (.cells #[.pointer (some ⟨G, 0, none⟩)] 69)).heap[wr.heap.size]? = some (.cells #[.int .i64 (d : Int)] 3 (0, 0)) := (Below.heap_alloc _ _ _ (by simp)).trans (World.alloc_heap_new _ _)
            have hN1 : ((wr.alloc (.cells #[.int .i64 (d : Int)] 3)).alloc (.cells #[.pointer (some ⟨G, 0, none⟩)] 69)).heap[wr.heap.size + 1]? = some (.cells #[.pointer (some ⟨G, 0, none⟩)] 69 (0, 0)) := two_new _ _ _
            have hsz5 : ((wr.alloc (.cells #[.int .i64 (d : Int)] 3)).alloc (.cells #[.pointer (some ⟨G, 0, none⟩)] 69)).heap.size = wr.heap.size + 2 := by simp
            generalize (wr.alloc (.cells #[.int .i64 (d : Int)] 3)).alloc (.cells #[.pointer (some ⟨G, 0, none⟩)] 69) = W5 at hB5 hN0 hN1 hsz5 ⊢
            have HG5 := Hd.mk ((hB5.block _ (cells_lt HF.out.left)).trans HF.out.left)
            have HGL : Hd (G + 1 < wr.heap.size) := ⟨cells_lt HBx.out⟩
            obtain ⟨N3, hN3e⟩ : ∃ N3, wr.heap.size = N3 := ⟨_, rfl⟩
            have HN3 := Hd.mk hN3e
            rw [hN3e] at hsz5 hN0 hN1 hB5 HGL ⊢
            clear hN3e
            have HSZ := Hd.mk hsz5
            have HN0 := Hd.mk hN0
            have HN1 := Hd.mk hN1
            have HB5 := Hd.mk hB5
            have HDS0 := Hd.mk hdS
            have hlen' := hlen
            clear hsz5 hN0 hN1 hB5 hRW k0 k1
            refine range_all G (N3 + 1) S HF.out.asc HF.out.rng (.exit 4) rfl HG5.out HN1.out
              (fun i W => i ≤ d ∧ Below N3 wr W ∧ W.heap[N3]? = some (.cells #[.int .i64 ((d - i : Nat) : Int)] 3 (0, 0)))
              (fun W => ∃ g' m' cap', OF w4 G l.length n (S.eraseIdx d) (out ++ [(q : Int)]) (.slice (some ⟨g', 0, none⟩) m' cap') (mark W5.heap.size :: ds) W ∧ (∃ r', W.heap[W5.heap.size + 1]? = some (.loop r')) ∧ W.heap[G + 1]? = some (.cells #[.slice (some ⟨g', 0, none⟩) m' cap'] 24 (0, 0))) ?_ ?_ ?_ ?_
            all_goals obtain ⟨D, hD⟩ : ∃ D, W5.heap.size = D := ⟨_, rfl⟩
            · intro o o'
              have := HSZ.out
              exact ⟨by omega, (HB5.out.alloc (by omega) _).alloc (by simp; omega) _, ((Below.heap_alloc _ _ _ (by simp; omega)).trans (Below.heap_alloc _ _ _ (by omega))).trans HN0.out⟩
            · rintro r hr i W hi hFr ⟨hid, hB, h0⟩
              have hrg := HF.out.rng _ (List.getElem_mem hi)
              obtain ⟨x, hx⟩ : ∃ x : Nat, S[i] = x := ⟨S[i].toNat, by omega⟩
              have HX := Hd.mk hx
              rw [hx] at hrg ⊢
              have HDS : Hd (N3 + 2 = D) := ⟨by rw [← hD, HSZ.out]⟩
              rw [hD] at hFr ⊢
              refine yield_at hr hFr.lp rfl ?_
              have HFR := Hd.mk hFr
              have HB := Hd.mk hB
              have H0 := Hd.mk h0
              clear hFr hB h0 hx hD
              gi_wp2_with fail
              refine ⟨HFR.out.lp, ?_⟩
              have hds := HDS.out
              have hgl := HGL.out
              have hlp : (busyW W (D + 1) r).heap[D + 1]? = some (.loop { r with state := .busy }) := World.putObj_heap_same (cells_lt HFR.out.lp)
              have hdf : (busyW W (D + 1) r).heap[D]? = some (.deferred (some [])) := (busy_other (by omega)).trans HFR.out.dfr
              have h0 : (busyW W (D + 1) r).heap[N3]? = some (.cells #[.int .i64 ((d - i : Nat) : Int)] 3 (0, 0)) := (busy_other (by omega)).trans H0.out
              have hbe : Below N3 wr (busyW W (D + 1) r) := putObj_below HB.out (by omega)
              have hbl : (busyW W (D + 1) r).heap[G]? = some (.cells (lf S) 51 (0, 0)) := (busy_other (by omega)).trans HFR.out.left
              have hbx : (busyW W (D + 1) r).heap[N3 + 1]? = some (.cells #[.pointer (some ⟨G, 0, none⟩)] 69 (0, 0)) := (busy_other (by omega)).trans HFR.out.box
              generalize busyW W (D + 1) r = Wb at hlp hdf h0 hbe hbl hbx ⊢
              have hb10 : Wb.heap[G + 1]? = some (.cells #[vo] 24 (0, 0)) := (hbe.block _ hgl).trans HBx.out
              have c0 := cells_cell h0 0
              have f0 := cells_free h0 0
              have HLP := Hd.mk hlp
              have HDF := Hd.mk hdf
              have G0 := Hd.mk h0
              have HBE := Hd.mk hbe
              have HBL := Hd.mk hbl
              have HBXX := Hd.mk hbx
              have HB10 := Hd.mk hb10
              clear hlp hdf h0 hbe hbl hbx hb10 HFR HB H0 hds hgl
              by_cases hxp : i = d
              · subst hxp
                have hz : i - i = 0 := by omega
                rw [hz] at c0
                obtain rfl : x = q := by have := HX.out; rw [HQ.out] at this; omega
                have hOFb : OF w4 G l.length (n + 1) S out vo (mark D :: ds) Wb := HF.out.mark (by rw [HN3.out]; exact HBE.out) (by have := HDS.out; have := HN3.out; omega) HDF.out
                obtain ⟨g', m', cap', w2', hrun, kB, kG, hO2, hKO, hB2⟩ := hOFb.push (by rw [← HG.out]; exact Nat.le_refl _) (by rw [← HG.out]; omega) (by omega) HB10.out hi HX.out
                have cB := cells_cell HB10.out 0
                have cB2 := cells_cell kB 0
                have fB2 := cells_free kB 0
                have x17 : x < 17 := by omega
                have cG := (cells_cell kG x).trans (lf_get S x x17)
                have fG := cells_free kG x
                have x0 : (0 : Int) ≤ (x : Int) := by omega
                have x1 : (x : Int) < 17 := by omega
                have HO2 := Hd.mk hO2
                have HKO := Hd.mk hKO
                have HBB2 := Hd.mk hB2
                clear hOFb kB kG hO2 hKO hB2 hz
                gi_wp2_with (gi_at_builtin; refine wpListIn_append_run rfl _ _ _ rfl rfl rfl hrun ?_)
                have hds := HDS.out
                have hlp2 := HKO.out _ _ HLP.out (by intro _ _ _ h; cases h)
                have hdf2 := HKO.out _ _ HDF.out (by intro _ _ _ h; cases h)
                refine ⟨hlp2, .inr ⟨rfl, (done_other (by omega)).trans hdf2, World.putObj_heap_same (cells_lt hlp2), g', m', cap', ?_, ⟨_, World.putObj_heap_same (cells_lt hlp2)⟩, ?_⟩⟩
                · exact HO2.out.putLoop hlp2 (by have := HG.out; have := HGL.out; omega) _
                · exact (done_other (by have := HGL.out; omega)).trans HBB2.out
              · obtain ⟨e, he⟩ : ∃ e, d - i = e + 1 := ⟨d - i - 1, by omega⟩
                rw [he] at c0 G0
                rw [show ((e + 1 : Nat) : Int) = (e : Int) + 1 from rfl] at c0
                have hd2 : decide ((e : Int) + 1 = 0) = false := decide_eq_false (by omega)
                have HE2 : Hd (d - (i + 1) = e ∧ i + 1 ≤ d) := ⟨by omega, by omega⟩
                have e0 : (e : Int) ≤ 100 := by have := HD2.out; omega
                clear he
                gi_wp2_with fail
                have hds := HDS.out
                have hgl := HGL.out
                have so : ∀ {k : Nat} {o : Obj} {v : Value}, k ≠ N3 → Wb.heap[k]? = some o → (Wb.setCell ⟨N3, 0, none⟩ v).heap[k]? = some o := fun hk h => (Below.heap_setCell _ _ _ _ hk).trans h
                refine ⟨so (by omega) HLP.out, .inl ⟨rfl, FrA.ready (by omega) (by omega) (so (by omega) HBL.out) (so (by omega) HBXX.out) (so (by omega) HDF.out) (so (by omega) HLP.out), HE2.out.2, putObj_below (HBE.out.setCell (Nat.le_refl _) _) (by omega), ?_⟩⟩
                rw [HE2.out.1]
                exact (ready_other (by omega)).trans (cells_set G0.out _)
            · rintro r W hFr ⟨hid, hB, h0⟩
              have := HDS0.out
              exact absurd hid (by omega)
            · rintro r W hD1 ⟨g', m', cap', hO, ⟨r', hlp⟩, hB10⟩
              rw [hD] at hD1 hO hlp ⊢
              have HDS : Hd (N3 + 2 = D) := ⟨by rw [← hD, HSZ.out]⟩
              have hds := HDS.out
              have hgl := HGL.out
              have hO2 := hO.putLoop hlp (by have := HG.out; omega) (.loop { r with state := .exhausted, pending := some (.exit 4) })
              have hB2 : (W.putObj (D + 1) (.loop { r with state := .exhausted, pending := some (.exit 4) })).heap[G + 1]? = some (.cells #[.slice (some ⟨g', 0, none⟩) m' cap'] 24 (0, 0)) := (World.putObj_heap_other (by omega)).trans hB10
              generalize W.putObj (D + 1) (.loop { r with state := .exhausted, pending := some (.exit 4) }) = Wb at hO2 hB2 ⊢
              have HO2 := Hd.mk hO2
              have HB2X := Hd.mk hB2
              have hkk : k + 1 ≤ l.length := by omega
              clear hO2 hB2 hO hlp hB10 hD1 hD hds hgl
              simp only [Act.marked]
              gi_wp2_with fail
              refine ⟨⟨_, _, _, _, _, _, _, _, _, _, _, _, _, _, _, _, _, _, k + 1, n, S.eraseIdx d, out ++ [(q : Int)], _, mark D :: ds, by omega, HO2.out, HB2X.out, HNX, rfl⟩, ?_⟩
              simp [intOf]
              omega
      · have HN : Hd (ntE l rn = 6 ∧ ntO l rn = []) := ⟨by
          have : ¬ (rn : Int) < fac l.length := fun h => by have := HQ.out.2 h; omega
          rw [HE.out.1, HE.out.2, if_neg this, if_neg this]; exact ⟨rfl, rfl⟩⟩
        have i0 : (0 : Int) < (q : Int) := by omega
        gi_wp2_with fail
        refine ⟨_, results_tmp2 Try.results22 _ _ _, .slice none 0 0, by rw [HN.out.1]; rfl, by rw [HN.out.2]; exact OwnI.nil _ _, hB⟩

end Go.Proofs.Ytmahjgffadbdcaa
