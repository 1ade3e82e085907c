/- Below: the walk that calls itself, walked; Below. -/
import Derived.Test.YtinagiofolmhbaaB3
namespace Go.Proofs.Ytinagiofolmhbaa
open Go.RowKit
set_option linter.unusedVariables false
set_option linter.unusedSimpArgs false

theorem dsc_step {l : List Hn} (ht : Tr l) {s : Int} {top : Hn} (htop : getL l s = some top) (x : Int) : Dsc l s x ↔ x = s ∨ ∃ c ∈ l, c.par = s ∧ Dsc l c.ser x := by
  constructor
  · rintro ⟨h, hm, rfl, hu⟩
    rcases (und_step ht htop hm).1 hu with e | ⟨c, hc, hp, hcu⟩
    · exact .inl e
    · exact .inr ⟨c, hc, hp, h, hm, rfl, hcu⟩
  · rintro (rfl | ⟨c, hc, hp, h, hm, rfl, hu⟩)
    · obtain ⟨h1, h2⟩ := getL_some htop
      exact ⟨top, h1, h2, .here h2⟩
    · exact ⟨h, hm, rfl, (und_step ht htop hm).2 (.inr ⟨c, hc, hp, hu⟩)⟩
theorem dsc_ge {l : List Hn} (ht : Tr l) {s x : Int} (h : Dsc l s x) : s ≤ x := by
  obtain ⟨h, hm, rfl, hu⟩ := h
  exact und_ge ht hu hm
theorem dsc_apart {l : List Hn} (ht : Tr l) {s x : Int} {c d : Hn} (hc : c ∈ l) (hd : d ∈ l) (hcs : c.par = s) (hds : d.par = s) (h1 : Dsc l c.ser x) (h2 : Dsc l d.ser x) : c = d := by
  obtain ⟨h, hm, rfl, hu⟩ := h1
  obtain ⟨h', hm', e, hu'⟩ := h2
  have := inc_inj ht.inc hm' hm e
  subst this
  exact und_apart ht hc hd hcs hds hm hu hu'
theorem iter_at {α β : Type} {ek : α → Value} {ev : β → Value} {w : World} {r b : Nat} {L dn : List (α × β)} (h : RangeL ek ev w r b L dn) : ∃ si se c0, w.heap[r]? = some (.mapIter (some b) si se c0) := by
  obtain ⟨es, clock, seen, since, c0, h1, h2, _⟩ := h
  exact ⟨_, _, _, h2⟩

set_option maxRecDepth 100000 in
set_option maxHeartbeats 2000000 in
theorem walk_any {y : Lay} {w : World} {pr : Nat → Prop} {M : Nat} {st : St} (HT : Hd (TabL y w pr M st)) {G BT BW mb : Nat} {L : List (Int × Hn)} (hne : G ≠ BT ∧ G ≠ BW) (HMB : Hd (y.mb = mb)) (HM : Hd (MapL Try.prog 3 kI hV w mb L))
    (HLM : Hd ((∀ p ∈ L, p.1 = p.2.ser ∧ p.2 ∈ liveS st) ∧ ∀ x ∈ liveS st, (x.ser, x) ∈ L)) :
    ∀ (n : Nat) (s : Int) (out : List Int) (W : World), later (liveS st) s < n → (∃ top, getL (liveS st) s = some top) → (∀ x ∈ out, ¬ Dsc (liveS st) s x) → WkQ w (liveS st) M G BT BW out W →
      Calls Try.prog 48 #[.int .i64 s, .pointer (some ⟨G, 0, none⟩), .pointer (some ⟨BT, 0, none⟩), .pointer (some ⟨BW, 0, none⟩)] W fun e W' => (∃ v, e = .returned v) ∧ ∃ T, (∀ x, x ∈ T ↔ Dsc (liveS st) s x) ∧ WkQ w (liveS st) M G BT BW (out ++ T) W' ∧ KeepI W W' G := by
  have HNE := Hd.mk hne
  have ht := HT.out.ok.tr
  have HTR := Hd.mk ht
  have hl256 := HT.out.ok.live
  have HL256 := Hd.mk hl256
  clear hne ht hl256
  intro n
  induction n with
  | zero => intro s out W hm; omega
  | succ n ih =>
    intro s out W hm htop hd hq
    obtain ⟨top, htop⟩ := htop
    have HIH := Hd.mk ih
    have HMS := Hd.mk hm
    have HTOP := Hd.mk htop
    have HD := Hd.mk hd
    obtain ⟨htm, hts⟩ := getL_some htop
    have hsn : s ∉ out := fun h => hd s h ⟨top, htm, hts, .here hts⟩
    obtain ⟨a, c, a', c', w', h1, hr, hG, hq1, hk1⟩ := hq.push (by have := HL256.out; omega) s hsn ⟨top, htm, hts⟩ HNE.out
    have q0 := (cells_cell h1 0).trans (show _ = some (.slice a out.length c) from rfl)
    have q1 := (cells_cell hG 0).trans (show _ = some (.slice a out.length c) from rfl)
    have f1 := cells_free hG 0
    obtain ⟨n1, hn1⟩ : ∃ n, out.length = n := ⟨_, rfl⟩
    obtain ⟨n2, hn2⟩ : ∃ n, (out ++ [s]).length = n := ⟨_, rfl⟩
    rw [hn2] at hr hq1 hk1
    rw [hn1] at hr q0 q1
    obtain ⟨W2, hW2⟩ : ∃ W, w'.setCell ⟨G, 0, none⟩ (.slice a' n2 c') = W := ⟨_, rfl⟩
    rw [hW2] at hq1 hk1
    have HQ1 := Hd.mk hq1
    have HK1 := Hd.mk hk1
    have b0 := (cells_cell hq1.bt 0).trans (show _ = some (.pointer (some ⟨M, 0, none⟩)) from rfl)
    have t2 := (HT.out.below hq1.bel).t2
    rw [HMB.out] at t2
    have hm2 := HM.out.same (hq1.bel.block mb HM.out.lt)
    obtain ⟨W3, hrun, hR3, hg3, hs3⟩ := hm2.range Try.underlying66
    obtain ⟨R, hRR⟩ : ∃ r, W2.heap.size = r := ⟨_, rfl⟩
    rw [hRR] at hrun hR3 hs3
    have hB3 : Below W2.heap.size W2 W3 := ⟨hg3.os, hg3.tape, hg3.output, hg3.size, fun k hk => hg3.block k hk (by simp)⟩
    have HR0 : Hd (w.heap.size ≤ R ∧ W.heap.size ≤ R) := ⟨by rw [← hRR]; exact ⟨hq1.bel.size, hk1.1⟩⟩
    have H0 : Hd (RangeL kI hV W3 R mb L [] ∧ WkQ w (liveS st) M G BT BW (out ++ [s] ++ []) W3 ∧ KeepI W W3 G ∧ ∀ x, x ∈ ([] : List Int) ↔ ∃ p ∈ ([] : List (Int × Hn)), p.2.par = s ∧ Dsc (liveS st) p.2.ser x) :=
      ⟨hR3, by rw [List.append_nil]; exact hq1.below hB3, hk1.trans (KeepI.below hB3), by simp⟩
    clear ih hm htop hd hq htm hts hsn h1 hG hq1 hk1 hn1 hn2 hm2 hR3 hg3 hs3 hB3 hRR
    go_enter Try.func48, Try.ntmps48
    go_wp2_with (at_builtin; refine wpList_append_run rfl _ _ _ rfl rfl rfl hr ?_; clear hr)
    clear q0 q1 f1 hW2 b0 t2 hrun
    go_loopw [] (fun W' => ∃ dn T, Hd (RangeL kI hV W' R mb L dn ∧ WkQ w (liveS st) M G BT BW (out ++ [s] ++ T) W' ∧ KeepI W W' G ∧ ∀ x, x ∈ T ↔ ∃ p ∈ dn, p.2.par = s ∧ Dsc (liveS st) p.2.ser x)) (fun W' => L.length - (W'.iterSeen R).size)
    case atStart => exact ⟨[], [], H0⟩
    case round =>
      obtain ⟨dn, T, HR⟩ := hrel
      have HSEEN := Hd.mk HR.out.1.seen
      clear H0
      go_wp2_with (at_next; refine wpList_next_h rfl _ rfl rfl HR.out.1 ?_ ?_)
      · intro hall
        have HALL := Hd.mk hall
        clear hall
        go_wp2_with fail
        go_end0
        refine ⟨⟨_, rfl⟩, s :: T, fun x => ?_, ?_, HR.out.2.2.1⟩
        · rw [dsc_step HTR.out HTOP.out, List.mem_cons, HR.out.2.2.2]
          constructor
          · rintro (e | ⟨p, hp, h1, h2⟩)
            · exact .inl e
            · exact .inr ⟨p.2, (HLM.out.1 p (HR.out.1.dns.2 p hp)).2, h1, h2⟩
          · rintro (e | ⟨c, hc, h1, h2⟩)
            · exact .inl e
            · exact .inr ⟨(c.ser, c), HALL.out _ _ (HLM.out.2 c hc), h1, h2⟩
        · have := HR.out.2.1
          rw [List.append_assoc] at this
          exact this
      · intro k x w4 h1 h2 h3 h4 h5 hent
        obtain ⟨hkx, hxl⟩ := HLM.out.1 _ h1
        simp only at hkx hxl
        obtain ⟨si, se, c0, hit⟩ := iter_at HR.out.1
        have hq4 := HR.out.2.1.iter h4 HR0.out.1 hit
        have hk4 := keep_iter h4 (by rw [h5]; exact Nat.le_refl _) HR.out.2.2.1 HR0.out.2
        obtain ⟨W5, hW5⟩ : ∃ W, w4.alloc (.cells #[.int .i64 x.ser, .int .i64 x.par, .int .i64 x.port, .int .i64 x.hol, h8 x.rts] 34) = W := ⟨_, rfl⟩
        have hB5 : Below w4.heap.size w4 W5 := by rw [← hW5]; exact (Below.refl _ _).alloc (Nat.le_refl _) _
        have hX5 : W5.heap[w4.heap.size]? = some (.cells #[.int .i64 x.ser, .int .i64 x.par, .int .i64 x.port, .int .i64 x.hol, h8 x.rts] 34 (0, 0)) := by rw [← hW5]; exact heap_alloc_new _ _
        obtain ⟨X, hX⟩ : ∃ r, w4.heap.size = r := ⟨_, rfl⟩
        rw [hX] at hX5
        have HR5 : Hd (RangeL kI hV W5 R mb L ((k, x) :: dn)) := ⟨h3.same (hB5.block _ (by
          obtain ⟨es, clock, seen, since, c0, e1, e2, _⟩ := h3
          exact lt_heap e1)) (hB5.block _ h3.lt)⟩
        have HQ5 := Hd.mk (hq4.below hB5)
        have HK5 := Hd.mk (hk4.trans (KeepI.below hB5))
        have HXL := Hd.mk hxl
        have HKX := Hd.mk hkx
        have HNOT := Hd.mk h2
        have HW5 := Hd.mk hW5
        have HXX := Hd.mk hX
        have q0 := (cells_cell hX5 0).trans (show _ = some (.int .i64 x.ser) from rfl)
        by_cases hp : x.par = s
        · have q1 := (cells_cell hX5 1).trans (show _ = some (.int .i64 x.par) from rfl)
          rw [hp] at q1
          have b1 := (cells_cell HQ5.out.bw 0).trans (show _ = some (.func (.func 48) #[] #[.pointer (some ⟨G, 0, none⟩), .pointer (some ⟨BT, 0, none⟩), .pointer (some ⟨BW, 0, none⟩)]) from rfl)
          have hcs : s < x.ser := by rw [← hp]; exact HTR.out.par x hxl
          have hmem : ∀ z, Dsc (liveS st) x.ser z → Dsc (liveS st) s z := fun z hz => (dsc_step HTR.out HTOP.out z).2 (.inr ⟨x, hxl, hp, hz⟩)
          have hcall := HIH.out x.ser (out ++ [s] ++ T) W5 (by have := later_lt hxl hcs; have := HMS.out; omega) ⟨x, getL_mem HTR.out.inc hxl⟩ (by
            intro z hz hdz
            rcases List.mem_append.1 hz with hz | hz
            · rcases List.mem_append.1 hz with hz | hz
              · exact HD.out z hz (hmem z hdz)
              · simp at hz
                have := dsc_ge HTR.out hdz
                omega
            · obtain ⟨p, hpd, hps, hpz⟩ := (HR.out.2.2.2 z).1 hz
              obtain ⟨e1, e2⟩ := HLM.out.1 p (HR.out.1.dns.2 p hpd)
              have e3 := dsc_apart HTR.out hxl e2 hp hps hdz hpz
              apply HNOT.out
              rw [show (k, x) = p from Prod.ext (by simp only; rw [HKX.out, e1, e3]) e3]
              exact hpd) HQ5.out
          have HCALL := Hd.mk hcall
          have HP := Hd.mk hp
          clear h1 h2 h3 h4 h5 hkx hxl hit hq4 hk4 hB5 hX5 hcs hmem hcall hp
          go_wp2_with fail
          refine HCALL.out.mono ?_
          rintro e W6 ⟨⟨v6, rfl⟩, T2, hT2, hq6, hk6⟩
          have HFIN : Hd (RangeL kI hV W6 R mb L ((k, x) :: dn) ∧ WkQ w (liveS st) M G BT BW (out ++ [s] ++ (T ++ T2)) W6 ∧ KeepI W W6 G ∧ ∀ z, z ∈ T ++ T2 ↔ ∃ p ∈ (k, x) :: dn, p.2.par = s ∧ Dsc (liveS st) p.2.ser z) := ⟨by
            obtain ⟨si, se, c0, hit⟩ := iter_at HR5.out
            refine ⟨HR5.out.same ((hq6.bel.block mb HM.out.lt).trans (HQ5.out.bel.block mb HM.out.lt).symm) ((hk6.2 R _ hit ?_ (fun cs fr e => by cases e)).trans hit.symm), by rw [← List.append_assoc]; exact hq6, HK5.out.trans hk6, fun z => ?_⟩
            · intro e
              obtain ⟨a, c, h1, _⟩ := HQ5.out.bo
              rw [← e, hit] at h1; cases h1
            · rw [List.mem_append, HR.out.2.2.2, hT2]
              constructor
              · rintro (⟨p, hp, h1, h2⟩ | h)
                · exact ⟨p, by simp [hp], h1, h2⟩
                · exact ⟨(k, x), by simp, HP.out, h⟩
              · rintro ⟨p, hp, h1, h2⟩
                rcases List.mem_cons.1 hp with rfl | hp
                · exact .inr h2
                · exact .inl ⟨p, hp, h1, h2⟩⟩
          clear hT2 hq6 hk6 HCALL q0 q1 b1 hent
          go_wp2_with fail
          go_roundw
          case rel => exact ⟨_, _, HFIN⟩
          case measure =>
            have e1 := HSEEN.out
            have e2 := HFIN.out.1.seen
            have e3 := HFIN.out.1.fits
            rw [e1, e2]
            simp only [List.length_cons] at e3 ⊢
            omega
        · have q1 := (cells_cell hX5 1).trans (show _ = some (.int .i64 x.par) from rfl)
          have t1 : (x.par == s) = false := by simpa using hp
          have t3 : decide (x.par = s) = false := by simpa using hp
          have HFIN : Hd (RangeL kI hV W5 R mb L ((k, x) :: dn) ∧ WkQ w (liveS st) M G BT BW (out ++ [s] ++ T) W5 ∧ KeepI W W5 G ∧ ∀ z, z ∈ T ↔ ∃ p ∈ (k, x) :: dn, p.2.par = s ∧ Dsc (liveS st) p.2.ser z) := ⟨HR5.out, HQ5.out, HK5.out, fun z => by
            rw [HR.out.2.2.2]
            constructor
            · rintro ⟨p, hp, h1, h2⟩
              exact ⟨p, by simp [hp], h1, h2⟩
            · rintro ⟨p, hp2, h1, h2⟩
              rcases List.mem_cons.1 hp2 with rfl | hp2
              · exact absurd h1 hp
              · exact ⟨p, hp2, h1, h2⟩⟩
          clear h1 h2 h3 h4 h5 hkx hxl hit hq4 hk4 hB5 hX5 hp
          go_wp2_with fail
          go_roundw
          case rel => exact ⟨_, _, HFIN⟩
          case measure =>
            have e1 := HSEEN.out
            have e2 := HFIN.out.1.seen
            have e3 := HFIN.out.1.fits
            rw [e1, e2]
            simp only [List.length_cons] at e3 ⊢
            omega
end Go.Proofs.Ytinagiofolmhbaa
