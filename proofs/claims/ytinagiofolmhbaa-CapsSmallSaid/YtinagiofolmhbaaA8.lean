/- All. -/
import Derived.Test.YtinagiofolmhbaaA7
namespace Go.Proofs.Ytinagiofolmhbaa
open Go.RowKit
set_option linter.unusedVariables false
set_option linter.unusedSimpArgs false

set_option maxRecDepth 100000 in
theorem info34 : ∃ i z, Try.prog.info? 34 = some i ∧ i.zero = some z ∧ z.cells.size = 5 ∧ i.size = 5 ∧ i.bytes = 40 :=
  ⟨_, _, rfl, rfl, by kernel_rfl, by kernel_rfl, by kernel_rfl⟩
theorem push_h {w : World} {base : Nat} {v : Value} {xs : List Hn} (x : Hn) (h : OwnN hL w base 34 v xs) (hb : base ≤ w.heap.size) (hl : xs.length ≤ 100000) :
    ∃ v' w', (Builtin.append_ #[28, 28] 28 #[v, .slice (some ⟨w.heap.size, 0, none⟩) 1 1]).run Try.prog (w.alloc (.cells #[.int .i64 x.ser, .int .i64 x.par, .int .i64 x.port, .int .i64 x.hol, h8 x.rts] 34)) = .ok v' w' ∧ OwnN hL w' base 34 v' (xs ++ [x]) ∧ ∀ {w0 : World}, Below base w0 w → Below base w0 w' := by
  obtain ⟨i, z, hi, hz, hzs, hsz, hby⟩ := info34
  have hh := h.alloc (.cells #[.int .i64 x.ser, .int .i64 x.par, .int .i64 x.port, .int .i64 x.hol, h8 x.rts] 34)
  obtain ⟨v', w', hr, ho, hg⟩ := OwnN.push (P := Try.prog) 28 i z 40 Try.underlying28 hi hz hsz hby hzs (by decide) hh (by simp; omega) x (heap_alloc_new w _) (by simp only [maxLen]; omega) (by omega)
  exact ⟨v', w', hr, ho, fun hB => OwnN.grown hh (hB.alloc hb _) (by simp; omega) hg⟩
theorem TabL.keys {y : Lay} {w : World} {pr : Nat → Prop} {M : Nat} {st : St} (h : TabL y w pr M st) {L : List (Int × Hn)} (hn : (L.map Prod.fst).Nodup) (hm : ∀ p ∈ L, p.1 = p.2.ser ∧ p.2 ∈ liveS st) (hm2 : ∀ x ∈ liveS st, (x.ser, x) ∈ L) :
    (L.map Prod.fst).Perm ((liveS st).map (·.ser)) := by
  refine perm_mem hn (inc_nodup (List.pairwise_map.2 (live_inc h.ok))) fun x => ?_
  simp only [List.mem_map]
  constructor
  · rintro ⟨p, hp, rfl⟩
    exact ⟨p.2, (hm p hp).2, (hm p hp).1.symm⟩
  · rintro ⟨z, hz, rfl⟩
    exact ⟨(z.ser, z), hm2 z hz, rfl⟩
set_option maxRecDepth 100000 in
set_option maxHeartbeats 1000000 in
theorem all_any {y : Lay} {w : World} {pr : Nat → Prop} {M : Nat} {st : St} (h : TabL y w pr M st) :
    Calls Try.prog 14 #[.pointer (some ⟨M, 0, none⟩)] w fun e w' => ∃ v, e = .returned v ∧ OwnN hL w' w.heap.size 34 v (liveS st) ∧ Below w.heap.size w w' := by
  have H := Hd.mk (is_at h.t0)
  have t2 := h.t2
  have HT := Hd.mk h
  obtain ⟨L, hm, hl, hlen, hm1, hm2⟩ := h.mlen
  have hkeys := h.keys hm.nodup hm1 hm2
  have hlive := h.ok.live
  obtain ⟨n, hn⟩ : ∃ n, (liveS st).length = n := ⟨_, rfl⟩
  have HN := Hd.mk hn
  have hr1 : ((liveS st).map (·.ser)).Pairwise (· ≤ ·) := inc_le (List.pairwise_map.2 (live_inc h.ok))
  obtain ⟨mb, hmb⟩ : ∃ b, y.mb = b := ⟨_, rfl⟩
  have HMB := Hd.mk hmb
  rw [hmb] at t2 hm
  have HM := Hd.mk hm
  have HL := Hd.mk hl
  have hL3 : L.length ≤ 1000 := by omega
  have hn256 : n ≤ 256 := by omega
  have HK := Hd.mk (fun (W : World) (hB : Below w.heap.size w W) (B : Nat) (hb : W.heap[B]? = some (.cells #[.map (some mb)] 66 (0, 0))) => sorted_keys B mb L _ W hb (hm.same (hB.block mb hm.lt)) hL3 hr1 hkeys)
  clear h hm hl hlen hm1 hm2 hkeys hlive hn hr1 hmb hL3
  go_enter Try.func14, Try.ntmps14
  go_wp2_with fail
  refine H.out.mono ?_
  rintro e w1 ⟨rfl, rfl⟩
  go_wp2_with fail
  refine (keys_any mb w).mono ?_
  rintro e w1 ⟨rfl, rfl⟩
  go_wp2_with fail
  refine (HK.out _ ((Below.refl _ _).alloc (Nat.le_refl _) _) w.heap.size (heap_alloc_new _ _)).mono ?_
  rintro e w2 ⟨v2, rfl, hO2, hB2⟩
  obtain ⟨a2, c2, rfl⟩ := hO2.src.shape
  have hB2' : Below w.heap.size w w2 := ((Below.refl w.heap.size w).alloc (Nat.le_refl _) (.cells #[.map (some mb)] 66)).trans (hB2.mono (by simp))
  rw [List.length_map, HN.out]
  have HO2 := Hd.mk hO2
  have HB2 := Hd.mk hB2'
  have HS2 : Hd (w.heap.size ≤ w2.heap.size) := ⟨hB2'.size⟩
  clear hO2 hB2 hB2' HK t2
  go_wp2_with fail
  have H0 : Hd (OwnN hL w2 w2.heap.size 34 (.slice none 0 0) ((liveS st).take 0)) := ⟨OwnN.nil _ _ _ _⟩
  go_loopw [3, 16] (fun v i W => ∃ k : Nat, k ≤ n ∧ i = .int .i64 k ∧ Hd (OwnN hL W w2.heap.size 34 v ((liveS st).take k)) ∧ Hd (Below w2.heap.size w2 W)) (fun _ i _ => n - (intOf i).toNat)
  case atStart => exact ⟨0, by omega, rfl, H0, ⟨Below.refl _ _⟩⟩
  case round =>
    obtain ⟨k, hk, rfl, HR, HBW⟩ := hrel
    obtain ⟨a, c, rfl⟩ := HR.out.shape
    have htl : ((liveS st).take k).length = k := by rw [List.length_take, HN.out]; omega
    have hR := HR.out
    rw [htl] at hR ⊢
    by_cases hlt : k < n
    · have hkl : k < (liveS st).length := by rw [HN.out]; exact hlt
      obtain ⟨x, hx⟩ : ∃ x, (liveS st)[k] = x := ⟨_, rfl⟩
      obtain ⟨b, off, rfl, hbl, hc⟩ := SrcI.at (HO2.out.src.below HBW.out) k (by rw [List.length_map]; exact hkl)
      rw [List.getElem_map, hx] at hc
      have hBw := HB2.out.trans (HBW.out.mono HB2.out.size)
      have hxm : x ∈ liveS st := by rw [← hx]; exact List.getElem_mem _
      have hb0 := HT.out.ok.lo _ (live_mem.1 hxm)
      have hn2 := HT.out.ok.n2
      have t2 := (HT.out.below hBw).t2
      obtain ⟨l, hkey⟩ := key3 (x := x.ser) ⟨by simp only at hb0; omega, by simp only at hb0; omega⟩
      have hlook := (HM.out.same (hBw.block mb HM.out.lt)).look keyed3 kI_inj Try.underlying66 (Try.zeroValue34 wr) x.ser hkey false
      rw [HL.out, getL_mem (live_inc HT.out.ok) hxm] at hlook
      have hrun : (Instr.lookup 66 (.map (some mb)) (.int .i64 x.ser) false).run Try.prog wr = .ok (.agg #[.int .i64 x.ser, .int .i64 x.par, .int .i64 x.port, .int .i64 x.hol, h8 x.rts]) wr := by
        rcases hlook with ⟨h, _⟩ | ⟨v, hv, h⟩
        · simp at h
        · simp at hv; subst hv; exact h
      rw [HMB.out] at t2
      obtain ⟨v', w', hr, ho, hg⟩ := push_h x hR HBW.out.size (by omega)
      rw [show (liveS st).take k ++ [x] = (liveS st).take (k + 1) from by rw [List.take_succ_eq_append_getElem hkl, hx]] at ho
      have HO' := Hd.mk ho
      have HB' := Hd.mk (hg HBW.out)
      have k0 : (0 : Int) ≤ (k : Int) := by omega
      have k1 : (k : Int) < (n : Int) := by omega
      have k2 : (k : Int) + 1 ≤ 9223372036854775807 := by omega
      have HLT := Hd.mk hlt
      clear hlt hkl hx hxm hb0 hn2 hkey hlook ho hg hR htl hBw hbl hk
      go_wp2_with (at_builtin; refine wpList_append_run rfl _ _ _ rfl rfl rfl hr ?_; clear hr)
      go_roundw
      case rel => exact ⟨k + 1, by have := HLT.out; omega, by go_num, HO', HB'⟩
      case measure => have := HLT.out; simp [intOf]; omega
    · obtain rfl : k = n := by omega
      have hfin := hR
      rw [List.take_of_length_le (by rw [HN.out]; omega)] at hfin
      have HF := Hd.mk (OwnN.lower hfin HS2.out)
      clear hfin hR hlt hk htl
      go_wp2_with fail
      refine bodyPost_ret (results_tmp Try.results14 _ _ _) rfl ?_
      exact ⟨_, rfl, HF.out, HB2.out.trans (HBW.out.mono HB2.out.size)⟩
end Go.Proofs.Ytinagiofolmhbaa
