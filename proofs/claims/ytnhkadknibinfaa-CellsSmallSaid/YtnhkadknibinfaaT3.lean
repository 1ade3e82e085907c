/- The law's acts: all that a memory does, beside the reference. -/
import Derived.Test.YtnhkadknibinfaaT2
import Derived.Test.YtnhkadknibinfaaE4
import Derived.Test.YtnhkadknibinfaaRowS
import Derived.Deep.DeepCutAuto
import Derived.Lib.MinMax
namespace Go.Proofs.Ytnhkadknibinfaa
open Go.RowKit
set_option linter.unusedVariables false
set_option linter.unusedSimpArgs false

abbrev Ac := Int × Int × Int × Int
def actL : Lays Ac := ⟨4, fun a => [.int .u8 a.1, .int .i64 a.2.1, .int .i64 a.2.2.1, .int .i64 a.2.2.2], fun _ => rfl, by
  intro x u hu
  simp at hu
  rcases hu with rfl | rfl | rfl | rfl <;> rfl⟩
theorem SrcN.kept {α : Type} {L : Lays α} {w w1 : World} {v : Value} {xs : List α} (h : SrcN L w v xs) (hk : ∀ k, k < w.heap.size → w1.heap[k]? = w.heap[k]?) (hs : w.heap.size ≤ w1.heap.size) : SrcN L w1 v xs := by
  rcases h with h | ⟨b, off, c, hv, h1, h2, hb, hc⟩
  · exact .inl h
  · refine .inr ⟨b, off, c, hv, h1, h2, Nat.lt_of_lt_of_le hb hs, fun j hj r u hr => ?_⟩
    rw [← hc j hj r u hr]
    unfold World.cell?
    rw [hk b hb]
theorem SrcI.capLe {w : World} {a : Option Addr} {n c : Nat} {l : List Int} (h : SrcI w (.slice a n c) l) : l.length ≤ c := by
  rcases h with ⟨h, rfl⟩ | ⟨ad, c', h, h1, _⟩
  · simp
  · simp only [Value.slice.injEq] at h
    omega
theorem copyInts_big (v : Value) (p : List Int) (w : World) (h : SrcI w v p) (hl : p.length * 8 ≤ 140737488355328) : Calls Try.prog 36 #[v] w fun e w' => ∃ v', e = .returned v' ∧ AppI 3 w' w.heap.size v' p ∧ Below w.heap.size w w' := by
  obtain ⟨i, z, hi, hz, hzs, hsz, hby⟩ := info44
  obtain ⟨v5, w5, hr5, ho5, hg5⟩ := OwnE.append (P := Try.prog) 44 44 i z 8 Try.underlying44 hi hz hsz hby hzs (fun x => rfl) (OwnE.nil (fun n : Int => Value.int .i64 n) w w.heap.size 3) (Nat.le_refl _) v p h (by simp only [maxLen, List.length_nil]; omega) (by simp only [List.length_nil]; omega)
  rw [List.nil_append] at ho5
  have hB5 : Below w.heap.size w w5 := OwnE.grown (OwnE.nil (fun n : Int => Value.int .i64 n) w w.heap.size 3) (Below.refl _ _) (Nat.le_refl _) hg5
  have HO := Hd.mk ho5
  have HB := Hd.mk hB5
  clear h ho5 hg5 hB5 hi hz hzs hsz hby hl
  go_enter Try.func36, Try.ntmps36
  go_wp2_with (at_builtin; refine wpList_append_run rfl _ _ _ rfl rfl rfl hr5 ?_; clear hr5)
  go_ret
  exact ⟨v5, rfl, HO.out, HB.out⟩

/-- What an act leaves. -/
def actS (st : St) (a : Ac) : St := if a.1 % 8 = 4 then markS st else if a.1 % 8 = 5 then backS st else if a.1 % 8 = 6 then keepS st else if a.1 % 8 = 7 then st else storeS st a.2.1 a.2.2.1 a.2.2.2
/-- What stands at a round's head. -/
structure ActQ (w0 W : World) (lv : Value) (ls : List Ac) (pr : Nat → Prop) (R M : Nat) (sm sr : St) (v1 v2 : Value) : Prop where
  sys : Sys W pr R M sm v1 v2
  ref : RefAt pr W v1 v2 sr
  src : Held pr W (fun W => SrcN actL W lv ls)
  bel : Held pr W (fun W => Below w0.heap.size w0 W)
section
variable {w0 W W' : World} {lv : Value} {ls : List Ac} {pr : Nat → Prop} {R M : Nat} {sm sr sm' sr' : St} {v1 v2 a b : Value}
theorem ActQ.below (h : ActQ w0 W lv ls pr R M sm sr v1 v2) (hB : Below W.heap.size W W') : ActQ w0 W' lv ls (grow pr W W') R M sm sr v1 v2 ∧ Step pr W (grow pr W W') W' := by
  obtain ⟨h1, h2⟩ := h.sys.below hB
  exact ⟨⟨h1, h.ref.step h2, h.src.step h2, h.bel.step h2⟩, h2⟩
theorem ActQ.mut (h : ActQ w0 W lv ls pr R M sm sr v1 v2) (hm : MemAt W' (withR pr R) M sm') (hs : Step (withR pr R) W (withR pr R) W') : ActQ w0 W' lv ls pr R M sm' sr v1 v2 ∧ Step pr W pr W' := by
  obtain ⟨h1, h2⟩ := h.sys.mut hm hs
  exact ⟨⟨h1, h.ref.step h2, h.src.step h2, h.bel.step h2⟩, h2⟩
theorem ActQ.put (h : ActQ w0 W lv ls pr R M sm sr v1 v2) (hB : Below W.heap.size W W') (hr : RefAt (grow pr W W') W' a b sr') :
    ActQ w0 ((W'.setCell ⟨R, 0, none⟩ a).setCell ⟨R, 1, none⟩ b) lv ls (grow pr W W') R M sm sr' a b ∧ Step pr W (grow pr W W') ((W'.setCell ⟨R, 0, none⟩ a).setCell ⟨R, 1, none⟩ b) := by
  obtain ⟨h1, h2⟩ := h.below hB
  obtain ⟨h3, h4⟩ := h1.sys.put a b
  exact ⟨⟨h3, hr.step h4, h1.src.step h4, h1.bel.step h4⟩, h2.trans h4⟩
theorem ActQ.b0 (h : ActQ w0 W lv ls pr R M sm sr v1 v2) : W.cell? ⟨R, 0, none⟩ = some v1 := by rw [cells_cell h.sys.box]; rfl
theorem ActQ.b1 (h : ActQ w0 W lv ls pr R M sm sr v1 v2) : W.cell? ⟨R, 1, none⟩ = some v2 := by rw [cells_cell h.sys.box]; rfl
theorem ActQ.f (h : ActQ w0 W lv ls pr R M sm sr v1 v2) (k : Nat) : W.frozen? ⟨R, k, none⟩ = false := cells_free h.sys.box k
theorem ActQ.no (h : ActQ w0 W lv ls pr R M sm sr v1 v2) : ∃ y, MemL y W noPr M sm := h.sys.mem.less (qr := noPr) (fun k hk => hk.elim)
end
theorem over_mem {w w' : World} {pr : Nat → Prop} {M : Nat} {st : St} {v : Value} (h : MemAt w pr M st) (hg : w.grownBy w' v.ownBlock) (hv : ∀ g, v.ownBlock = some g → pr g) : MemAt w' (fun k => pr k ∧ v.ownBlock ≠ some k) M st := by
  obtain ⟨y, h⟩ := h
  exact ⟨y, h.frame (fun k hk => hg.block k (h.foot k hk).2 (fun e => (h.foot k hk).1 (hv k e.symm))) (fun k hk => Nat.lt_of_lt_of_le (h.prs k hk.1) hg.size) (fun k hk hp => (h.foot k hk).1 hp.1)⟩
theorem ActQ.first {w w6 w7 : World} {lv : Value} {ls : List Ac} {pr : Nat → Prop} {M : Nat} {st : St} {v1 v2 : Value} (hM : MemAt w6 pr M st) (hB7 : Below w6.heap.size w6 w7) (hr : RefAt (grow pr w6 w7) w7 v1 v2 st) (hl : SrcN actL w lv ls) (hB6 : Below w.heap.size w w6)
    (hp : ∀ k, k < w.heap.size → pr k) : ActQ w (w7.alloc (.cells #[v1, v2] 86)) lv ls (grow pr w6 w7) w7.heap.size M st st v1 v2 := by
  have hB8 := (Below.refl w7.heap.size w7).alloc (Nat.le_refl _) (.cells #[v1, v2] 86)
  have hM7 := hM.protect hB7
  have hBw : Below w.heap.size w (w7.alloc (.cells #[v1, v2] 86)) := (hB6.trans (hB7.mono hB6.size)).trans (hB8.mono (Nat.le_trans hB6.size hB7.size))
  have hbel : Held (grow pr w6 w7) (w7.alloc (.cells #[v1, v2] 86)) (fun W => Below w.heap.size w W) := Held.below hBw (fun k hk => .inl (hp k hk))
  refine ⟨⟨(hM7.protect hB8).less ?_, heap_alloc_new _ _, fun h => Nat.lt_irrefl _ (hM7.prs _ h)⟩, hr.below hB8, hbel.imp fun W hW => hl.below hW, hbel⟩
  rintro k (hk | rfl)
  · exact .inl hk
  · exact .inr ⟨Nat.le_refl _, by simp⟩
/-- What stands beside: the act in its box, the copy, what was. -/
structure Bes (pr : Nat → Prop) (W : World) (B1 : Nat) (x : Ac) (M2 : Nat) (st : St) (B2 : Nat) (u1 u2 : Value) : Prop where
  act : Held pr W (fun W => W.heap[B1]? = some (.cells #[.int .u8 x.1, .int .i64 x.2.1, .int .i64 x.2.2.1, .int .i64 x.2.2.2] 59 (0, 0)))
  cop : Held pr W (fun W => ∃ y, MemL y W noPr M2 st)
  was : Held pr W (fun W => W.heap[B2]? = some (.cells #[u1, u2] 86 (0, 0)))
  ref : RefAt pr W u1 u2 st
theorem Bes.step {pr pr' : Nat → Prop} {W W' : World} {B1 M2 B2 : Nat} {x : Ac} {st : St} {u1 u2 : Value} (h : Bes pr W B1 x M2 st B2 u1 u2) (s : Step pr W pr' W') : Bes pr' W' B1 x M2 st B2 u1 u2 :=
  ⟨h.act.step s, h.cop.step s, h.was.step s, h.ref.step s⟩
theorem held_new {pr : Nat → Prop} {W : World} (o : Obj) : Held (grow pr W (W.alloc o)) (W.alloc o) (fun W' => W'.heap[W.heap.size]? = some o) := fun W' hW => by
  show W'.heap[W.heap.size]? = some o
  rw [hW.block _ (.inr ⟨Nat.le_refl _, by simp⟩)]
  exact heap_alloc_new _ _
theorem held_copy {pr : Nat → Prop} {w w' : World} {M2 : Nat} {st : St} (h : MemAt w' (fun k => k < w.heap.size) M2 st) (hB : Below w.heap.size w w') : Held (grow pr w w') w' (fun W => ∃ y, MemL y W noPr M2 st) := by
  obtain ⟨y, h⟩ := h
  exact fun W hW => ⟨y, h.held (pr := grow pr w w') (fun k hk => .inr ⟨Nat.le_of_not_lt (h.foot k hk).1, (h.foot k hk).2⟩) W hW⟩
/-- The whole start of a round. -/
theorem ActQ.start {w0 W WA W2 : World} {lv : Value} {ls : List Ac} {pr : Nat → Prop} {R M M2 : Nat} {st : St} {v1 v2 : Value} (x : Ac) (h : ActQ w0 W lv ls pr R M st st v1 v2)
    (hA : W.alloc (.cells #[.int .u8 x.1, .int .i64 x.2.1, .int .i64 x.2.2.1, .int .i64 x.2.2.2] 59) = WA) (hm : MemAt W2 (fun k => k < WA.heap.size) M2 st) (hB : Below WA.heap.size WA W2) :
    ∃ pr', ActQ w0 (W2.alloc (.cells #[v1, v2] 86)) lv ls pr' R M st st v1 v2 ∧ Bes pr' (W2.alloc (.cells #[v1, v2] 86)) W.heap.size x M2 st W2.heap.size v1 v2 := by
  subst hA
  obtain ⟨h1, s1⟩ := h.below ((Below.refl W.heap.size W).alloc (Nat.le_refl _) (.cells #[.int .u8 x.1, .int .i64 x.2.1, .int .i64 x.2.2.1, .int .i64 x.2.2.2] 59))
  obtain ⟨h2, s2⟩ := h1.below hB
  obtain ⟨h3, s3⟩ := h2.below ((Below.refl W2.heap.size W2).alloc (Nat.le_refl _) (.cells #[v1, v2] 86))
  refine ⟨_, h3, ((held_new _).step s2).step s3, (held_copy hm hB).step s3, held_new _, h3.ref⟩

set_option maxRecDepth 100000 in
set_option maxHeartbeats 4000000 in
theorem acts_any {w : World} {pv lv : Value} {p : List Int} {ls : List Ac} (hp : SrcI w pv p) (hpm : p.length * 8 ≤ 140737488355328) (hl : SrcN actL w lv ls) (hk : ∀ a ∈ ls, 0 ≤ a.1 ∧ a.1 < 256) :
    Calls Try.prog 28 #[pv, lv] w fun e w' => e = .returned (.bool true) ∧ Below w.heap.size w w' := by
  have hb := hp.small
  have hbl := hl.small
  obtain ⟨a, c, rfl⟩ := hp.shape
  obtain ⟨a2, c2, rfl⟩ := hl.shape
  have hcap := hp.capLe
  have HP := Hd.mk hp
  have HL := Hd.mk hl
  have HK := Hd.mk hk
  have HPM := Hd.mk hpm
  obtain ⟨n, hn⟩ : ∃ n, p.length = n := ⟨_, rfl⟩
  have HN := Hd.mk hn
  obtain ⟨q, hq⟩ : ∃ n, ls.length = n := ⟨_, rfl⟩
  have HQ := Hd.mk hq
  rw [hn] at hb hcap ⊢
  rw [hq] at hbl ⊢
  have HR29 := Hd.mk (fun (W : World) (hB : Below w.heap.size w W) => rright_any _ p W (hp.below hB))
  rw [hn] at HR29
  have HNB := Hd.mk hb
  have HQB := Hd.mk hbl
  clear hp hl hk hpm hn hq hbl
  go_enter Try.func28, Try.ntmps28
  obtain ⟨m, hmn, hm20, hmc, hm1, hm2⟩ : ∃ m : Nat, m ≤ n ∧ m ≤ 20 ∧ m ≤ c ∧ max (min (n : Int) 20) 0 = (m : Int) ∧ min (n : Int) 20 = (m : Int) := ⟨min n 20, by omega, by omega, by omega, by omega, by omega⟩
  have hloop : ∀ k : Nat, k < m → ∃ b off z, a = some ⟨b, off, none⟩ ∧ w.cell? ⟨b, off + k, none⟩ = some (.int .i64 z) := fun k hk => by
    obtain ⟨b, off, h1, _, h2⟩ := HP.out.at k (by rw [HN.out]; omega)
    exact ⟨b, off, _, h1, h2⟩
  have HLO := Hd.mk hloop
  clear hloop
  go_wp2_with fail
  clear hm1 hm2 hb hcap hmn hmc
  go_loop [5, 33] (fun s i => ∃ k : Nat, k ≤ m ∧ i = .int .i64 k ∧ ∃ x : Nat, x ≤ 100 * k ∧ s = .int .i64 x) (fun _ i => m - (intOf i).toNat)
  case atStart => exact ⟨0, by omega, rfl, 0, by omega, rfl⟩
  case round =>
    obtain ⟨k, hk, rfl, x, hx1, rfl⟩ := hrel
    by_cases hlt : k < m
    · obtain ⟨b, off, y, rfl, hx⟩ := HLO.out k hlt
      obtain ⟨z, hz, hz1⟩ : ∃ z, min y 100 = z ∧ z ≤ 100 := ⟨min y 100, rfl, by omega⟩
      obtain ⟨z2, hz2, hz3⟩ : ∃ z2 : Nat, max z 0 = (z2 : Int) ∧ z2 ≤ 100 := ⟨(max z 0).toNat, by omega, by omega⟩
      clear hz1
      go_wp2_with fail
      clear hz hz2
      go_round
      case rel => exact ⟨k + 1, by omega, by go_num, x + z2, by omega, by go_num⟩
      case measure => simp [intOf]; omega
    · obtain rfl : k = m := by omega
      have hx2 : x ≤ 2000 := by omega
      clear hk hlt hx1
      by_cases h80 : 80 < q
      · have h80' : (80 : Int) < (q : Int) := by omega
        go_wp2_with fail
        go_ret
        exact ⟨rfl, Below.refl _ _⟩
      · have h80' : (q : Int) ≤ 80 := by omega
        have HQ80 := Hd.mk h80'
        cases hrv : rightV p with
        | false =>
          have H29 := Hd.mk (fun (W : World) (hB : Below w.heap.size w W) => by
            have := HR29.out W hB
            rw [hrv] at this
            exact this)
          have HRV := Hd.mk hrv
          clear HR29 h80 hrv
          go_wp2_with fail
          refine (H29.out _ (Below.refl _ _)).mono ?_
          rintro e w1 ⟨rfl, rfl⟩
          go_wp2_with fail
          have hcpy := copyInts_big _ p w HP.out HPM.out
          rw [HN.out] at hcpy
          refine hcpy.mono ?_
          rintro e w2 ⟨v8, rfl, hO, hB2⟩
          have HO := Hd.mk hO
          have HB2 := Hd.mk hB2
          clear hO hB2 hcpy
          go_wp2_with fail
          refine (new_wrong _ p _ HO.out.src HRV.out).mono ?_
          rintro e w3 ⟨rfl, hB3⟩
          have HB3 := Hd.mk (HB2.out.trans (hB3.mono HB2.out.size))
          have HO3 := Hd.mk (AppI.below HO.out hB3)
          clear hB3
          go_wp2_with fail
          refine (H29.out _ HB3.out).mono ?_
          rintro e w4 ⟨rfl, rfl⟩
          go_wp2_with fail
          have h27 := right_any _ p w3 HO3.out.src
          rw [HRV.out] at h27
          refine h27.mono ?_
          rintro e w5 ⟨rfl, hB5⟩
          have HB5 := Hd.mk (HB3.out.trans (hB5.mono HB3.out.size))
          clear hB5 h27
          go_wp2_with fail
          go_ret
          exact ⟨rfl, HB5.out⟩
        | true =>
          have H29 := Hd.mk (fun (W : World) (hB : Below w.heap.size w W) => by
            have := HR29.out W hB
            rw [hrv] at this
            exact this)
          have HRV := Hd.mk hrv
          have hd80 : decide ((80 : Int) < (q : Int)) = false := by simp; omega
          clear HR29 h80 hrv
          by_cases h40 : 40 < x
          · have h40' : (40 : Int) < (x : Int) := by omega
            go_wp2_with fail
            refine (H29.out _ (Below.refl _ _)).mono ?_
            rintro e w1 ⟨rfl, rfl⟩
            go_wp2_with fail
            go_ret
            exact ⟨rfl, Below.refl _ _⟩
          · have h40' : (x : Int) ≤ 40 := by omega
            clear h40
            go_wp2_with fail
            refine (H29.out _ (Below.refl _ _)).mono ?_
            rintro e w1 ⟨rfl, rfl⟩
            go_wp2_with fail
            clear h40' hx2
            have hcpy := copyInts_big _ p w HP.out HPM.out
            rw [HN.out] at hcpy
            refine hcpy.mono ?_
            rintro e w2 ⟨v8, rfl, hO, hB2⟩
            have HO := Hd.mk hO
            have HB2 := Hd.mk hB2
            clear hO hB2 hcpy
            go_wp2_with fail
            refine (x_new (a := zeros p) HO.out.src HRV.out rfl).mono ?_
            rintro e w3 ⟨M, p3, rfl, hm, hp3, hB3⟩
            have HM3 := Hd.mk hm
            have HP3 := Hd.mk hp3
            have HB3 := Hd.mk (HB2.out.trans (hB3.mono HB2.out.size))
            have HO3 := Hd.mk (AppI.below HO.out hB3)
            have HL2 : Hd (∀ g, v8.ownBlock = some g → w.heap.size ≤ g ∧ g < w2.heap.size) := ⟨fun g hg => World.ownsRow.lt HO.out g hg⟩
            clear hB3 hm hp3 HO
            go_wp2_with fail
            refine (H29.out _ HB3.out).mono ?_
            rintro e w4 ⟨rfl, rfl⟩
            go_wp2_with fail
            have h27 := right_any _ p w3 HO3.out.src
            rw [HRV.out] at h27
            refine h27.mono ?_
            rintro e w5 ⟨rfl, hB5⟩
            have HB5 := Hd.mk (HB3.out.trans (hB5.mono HB3.out.size))
            have HM5 := Hd.mk (HM3.out.below hB5).1
            have HO5 := Hd.mk (AppI.below HO3.out hB5)
            clear hB5 h27 HO3 HM3
            go_wp2_with fail
            have h16 := ((rightV_iff p).1 HRV.out).2.2
            refine (overInts_any HO5.out (by omega)).mono ?_
            rintro e w6 ⟨rfl, hg6⟩
            have HG6 := Hd.mk hg6
            clear hg6
            have hB6 : Below w.heap.size w w6 := HB5.out.grown HG6.out HB5.out.size (fun k hk => (HL2.out k hk).1)
            have HB6 := Hd.mk hB6
            have HM6 := Hd.mk (over_mem HM5.out HG6.out (fun g hg => HP3.out g (HL2.out g hg).2))
            have HPR : Hd (∀ k, k < w.heap.size → p3 k ∧ v8.ownBlock ≠ some k) := ⟨fun k hk => ⟨HP3.out k (Nat.lt_of_lt_of_le hk HB2.out.size), fun e => Nat.lt_irrefl _ (Nat.lt_of_lt_of_le hk (HL2.out k e).1)⟩⟩
            have hnew := rnew_any _ p _ (HP.out.below hB6) h16 (fun n hn => ⟨((rightV_iff p).1 HRV.out).1 n hn, (rightL_mem p 1024 (by
              have := HRV.out
              unfold rightV at this
              simp at this
              exact this.1) n hn).2⟩)
            rw [HN.out] at hnew
            have HNEW := Hd.mk hnew
            clear hB6 h16 HM5 HG6 HO5 HP3 HL2 HB5 HB2 HB3 hnew
            go_wp2_with fail
            refine HNEW.out.mono ?_
            rintro e w7 ⟨v1, rfl, hr7, hB7⟩
            obtain ⟨a1, c1, rfl, _⟩ := (hr7 (fun k => p3 k ∧ v8.ownBlock ≠ some k)).now.shape
            have hq0 := ActQ.first HM6.out hB7 (hr7 _) HL.out HB6.out HPR.out
            rw [HQ.out] at hq0
            obtain ⟨N1, hN1⟩ : ∃ N1, List.length (α := List Int) (St.now ⟨zeros p, []⟩) = N1 := ⟨_, rfl⟩
            rw [hN1] at hq0 ⊢
            have HQ0 := Hd.mk hq0
            clear hr7 hB7 hq0 HNEW HPR HM6 hN1
            go_wp2_with fail
            obtain ⟨w8, hw8⟩ : ∃ W, (w7.alloc (.cells #[.slice a1 N1 c1, .slice none 0 0] 86)) = W := ⟨_, rfl⟩
            obtain ⟨R, hR⟩ : ∃ R, w7.heap.size = R := ⟨_, rfl⟩
            obtain ⟨p8, hp8⟩ : ∃ p8, grow (fun k => p3 k ∧ v8.ownBlock ≠ some k) w6 w7 = p8 := ⟨_, rfl⟩
            have hq0 := HQ0.out
            rw [hw8, hR, hp8] at hq0
            rw [hw8]
            try rw [hR]
            have HQ0 := Hd.mk hq0
            clear hw8 hR hp8 hq0
            go_loopw [92] (fun i W => ∃ (k : Nat) (pr : Nat → Prop) (v1 v2 : Value) (st : St), k ≤ q ∧ i = .int .i64 k ∧ Hd (ActQ w W (.slice a2 q c2) ls pr R M st st v1 v2)) (fun i _ => q - (intOf i).toNat)
            case atStart => exact ⟨0, _, _, _, _, by omega, rfl, HQ0⟩
            case round =>
              obtain ⟨j, pr, u1, u2, st, hj, rfl, HA⟩ := hrel
              by_cases hlt : j < q
              · have hjl : j < ls.length := by rw [HQ.out]; exact hlt
                obtain ⟨b, off, rfl, hb, hcells⟩ := HA.out.src.now.at j hjl
                have hkd := HK.out _ (List.getElem_mem hjl)
                obtain ⟨⟨x0, x1, x2, x3⟩, hx⟩ : ∃ x, ls[j] = x := ⟨_, rfl⟩
                rw [hx] at hcells hkd
                have q0 : wr.cell? ⟨b, off + j * 4, none⟩ = some (.int .u8 x0) := hcells 0 _ rfl
                have q1 : wr.cell? ⟨b, off + j * 4 + 1, none⟩ = some (.int .i64 x1) := hcells 1 _ rfl
                have q2 : wr.cell? ⟨b, off + j * 4 + 2, none⟩ = some (.int .i64 x2) := hcells 2 _ rfl
                have q3 : wr.cell? ⟨b, off + j * 4 + 3, none⟩ = some (.int .i64 x3) := hcells 3 _ rfl
                obtain ⟨d1, e1, rfl, _⟩ := HA.out.ref.now.shape
                obtain ⟨d2, e2, rfl, _⟩ := HA.out.ref.marks.shape
                have hA := HA.out
                obtain ⟨Na, hNa⟩ : ∃ n, st.now.length = n := ⟨_, rfl⟩
                obtain ⟨Nb, hNb⟩ : ∃ n, st.marks.length = n := ⟨_, rfl⟩
                rw [hNa, hNb] at hA
                have HA := Hd.mk hA
                have hok := hA.sys.mem.ok
                have HOK := Hd.mk hok
                obtain ⟨k8, hk8⟩ : ∃ d, x0 % 8 = d := ⟨_, rfl⟩
                obtain ⟨hk0, hk1⟩ : 0 ≤ x0 ∧ x0 < 256 := hkd
                have r1 : Int.tmod x0 8 = k8 := by rw [Int.tmod_eq_emod_of_nonneg hk0]; exact hk8
                have r7 : 0 ≤ k8 ∧ k8 < 8 := by omega
                have w0 : IntKind.u8.wrap k8 = k8 := by unfold IntKind.wrap; simp [IntKind.bits]; omega
                have HLT := Hd.mk hlt
                have i3 : (0 : Int) ≤ (j : Int) := by omega
                have i4 : (j : Int) < (q : Int) := by omega
                have i5 : (j : Int) + 1 ≤ 9223372036854775807 := by have := HQB.out; omega
                have HK8 := Hd.mk hk8
                have HW0 := Hd.mk w0
                have HR1 := Hd.mk r1
                have HR7 := Hd.mk r7
                have HK0 := Hd.mk hk0
                have HK1 := Hd.mk hk1
                clear hjl hcells hx hNa hNb hA hok hlt hj w0 r1 r7 hk0 hk1 hk8
                go_upto_region 21 with fail
                obtain ⟨WA, hWA⟩ : ∃ W, (wr.alloc (.cells #[.int .u8 x0, .int .i64 x1, .int .i64 x2, .int .i64 x3] 59)) = W := ⟨_, rfl⟩
                rw [hWA]
                have HWA := Hd.mk hWA
                have hBA : Below wr.heap.size wr WA := by rw [← hWA]; exact (Below.refl _ _).alloc (Nat.le_refl _) _
                obtain ⟨hA1, _⟩ := HA.out.below hBA
                obtain ⟨y1, hy1⟩ := hA1.no
                have HCP := Hd.mk (copy_any hy1)
                have HA1 := Hd.mk hA1
                clear hWA hBA hA1 hy1 q0 q1 q2 q3
                go_wp2_with fail
                refine HCP.out.mono ?_
                rintro e w2 ⟨M2, rfl, hm2, hB2⟩
                obtain ⟨hA2, _⟩ := HA1.out.below hB2
                have c0 := hA2.b0
                have c1 := hA2.b1
                obtain ⟨p1, hq1, hb1⟩ := HA.out.start (x0, x1, x2, x3) HWA.out hm2 hB2
                have HQ1 := Hd.mk hq1
                have HB1 := Hd.mk hb1
                clear hm2 hB2 hA2 hq1 hb1 HA1 HCP HWA
                go_upto_region 23 with fail
                obtain ⟨w3, hw3⟩ : ∃ W, (w2.alloc (.cells #[.slice d1 Na e1, .slice d2 Nb e2] 86)) = W := ⟨_, rfl⟩
                rw [hw3]
                have hq1 := HQ1.out
                have hb1 := HB1.out
                rw [hw3] at hq1 hb1
                obtain ⟨B1, hB1⟩ : ∃ x, wr.heap.size = x := ⟨_, rfl⟩
                obtain ⟨B2, hB2⟩ : ∃ x, w2.heap.size = x := ⟨_, rfl⟩
                rw [hB1, hB2] at hb1
                try rw [hB1]
                try rw [hB2]
                have HQ1 := Hd.mk hq1
                have HB1 := Hd.mk hb1
                have y0 := cells_cell hb1.act.now 0
                have y1 := cells_cell hb1.act.now 1
                have y2 := cells_cell hb1.act.now 2
                have y3 := cells_cell hb1.act.now 3
                simp only [List.getElem?_toArray, List.getElem?_cons_zero, List.getElem?_cons_succ] at y0 y1 y2 y3
                have hk0 := HK0.out
                have hk1 := HK1.out
                have hk8 := HK8.out
                have w0 := HW0.out
                have r1 := HR1.out
                clear hq1 hb1 hw3 hB1 hB2 c0 c1
                have hkk := HR7.out
                by_cases h4 : k8 = 4
                · subst h4
                  obtain ⟨n1, hn1⟩ : ∃ x, markN st = x := ⟨_, rfl⟩
                  obtain ⟨er, he1⟩ : ∃ x, markE st = x := ⟨_, rfl⟩
                  obtain ⟨s1, hs1⟩ : ∃ x, markS st = x := ⟨_, rfl⟩
                  have HY := Hd.mk (y_mark HQ1.out.sys.mem (r := n1) (e := er) (st' := s1) hn1 he1 hs1)
                  have HN1 := Hd.mk hn1
                  have HE1 := Hd.mk he1
                  have HS1 := Hd.mk hs1
                  clear hn1 he1 hs1
                  go_wp2_with fail
                  refine HY.out.mono ?_
                  rintro e w4 ⟨rfl, hm, hs⟩
                  obtain ⟨hq2, s2⟩ := HQ1.out.mut hm hs
                  have HQ2 := Hd.mk hq2
                  have HB2 := Hd.mk (HB1.out.step s2)
                  have c0 := hq2.b0
                  have c1 := hq2.b1
                  have hrm := rmark_any HQ2.out.ref HOK.out HQ2.out.sys.prs
                  rw [HN1.out, HE1.out, HS1.out] at hrm
                  have HRM := Hd.mk hrm
                  clear y0 y1 y2 y3
                  clear hm hs hq2 s2 hrm HY
                  go_wp2_with fail
                  refine HRM.out.mono ?_
                  rintro e w5 ⟨v1', v2', rfl, hr, hB⟩
                  clear c0 c1 HRM
                  obtain ⟨f1, g1, rfl, _⟩ := hr.now.shape
                  obtain ⟨f2, g2, rfl, _⟩ := hr.marks.shape
                  obtain ⟨Nc, hNc⟩ : ∃ n, s1.now.length = n := ⟨_, rfl⟩
                  obtain ⟨Nd, hNd⟩ : ∃ n, s1.marks.length = n := ⟨_, rfl⟩
                  rw [hNc, hNd] at hr ⊢
                  obtain ⟨hq3, s3⟩ := HQ2.out.put hB hr
                  obtain ⟨h5, _⟩ := HQ2.out.below hB
                  have HQ3 := Hd.mk hq3
                  have HB3 := Hd.mk (HB2.out.step s3)
                  have c0 := h5.b0
                  have c1 := h5.b1
                  have f0 := h5.f 0
                  have f1' := h5.f 1
                  clear hr hB hNc hNd hq3 s3 h5
                  go_upto_region 44 with fail
                  obtain ⟨w6, hw6⟩ : ∃ W, ((w5.setCell ⟨R, 0, none⟩ (.slice f1 Nc g1)).setCell ⟨R, 1, none⟩ (.slice f2 Nd g2)) = W := ⟨_, rfl⟩
                  rw [hw6]
                  have hq3 := HQ3.out
                  have hb3 := HB3.out
                  rw [hw6] at hq3 hb3
                  have HQ3 := Hd.mk hq3
                  have HB3 := Hd.mk hb3
                  clear hw6 hq3 hb3 c0 c1 f0 f1'
                  have c0 := HQ3.out.b0
                  have c1 := HQ3.out.b1
                  obtain ⟨y4, hy4⟩ := HQ3.out.no
                  have HT1 := Hd.mk (tells_any hy4 HQ3.out.ref)
                  clear hy4
                  go_wp2_with fail
                  refine HT1.out.mono ?_
                  rintro e w7 ⟨rfl, hB7⟩
                  obtain ⟨hq4, s4⟩ := HQ3.out.below hB7
                  have HQ4 := Hd.mk hq4
                  have hb4 := HB3.out.step s4
                  have z0 := cells_cell hb4.was.now 0
                  have z1 := cells_cell hb4.was.now 1
                  simp only [List.getElem?_toArray, List.getElem?_cons_zero, List.getElem?_cons_succ] at z0 z1
                  obtain ⟨y5, hy5⟩ := hb4.cop.now
                  have HT2 := Hd.mk (tells_any hy5 hb4.ref)
                  clear hq4 s4 hb4 hy5 hB7 HT1 HQ3 HB3 c0 c1
                  go_wp2_with fail
                  refine HT2.out.mono ?_
                  rintro e w8 ⟨rfl, hB8⟩
                  obtain ⟨hq5, s5⟩ := HQ4.out.below hB8
                  have HQ5 := Hd.mk hq5
                  clear hq5 s5 hB8 HT2 HQ4 z0 z1
                  go_wp2_with fail
                  go_roundw
                  case rel => exact ⟨j + 1, _, _, _, _, by have := HLT.out; omega, by go_num, HQ5⟩
                  case measure => have := HLT.out; simp [intOf]; omega
                by_cases h5 : k8 = 5
                · subst h5
                  obtain ⟨n1, hn1⟩ : ∃ x, popN st = x := ⟨_, rfl⟩
                  obtain ⟨er, he1⟩ : ∃ x, popE st = x := ⟨_, rfl⟩
                  obtain ⟨s1, hs1⟩ : ∃ x, backS st = x := ⟨_, rfl⟩
                  have HY := Hd.mk (y_back HQ1.out.sys.mem (r := n1) (e := er) (st' := s1) hn1 he1 hs1)
                  have HN1 := Hd.mk hn1
                  have HE1 := Hd.mk he1
                  have HS1 := Hd.mk hs1
                  clear hn1 he1 hs1
                  go_wp2_with fail
                  refine HY.out.mono ?_
                  rintro e w4 ⟨rfl, hm, hs⟩
                  obtain ⟨hq2, s2⟩ := HQ1.out.mut hm hs
                  have HQ2 := Hd.mk hq2
                  have HB2 := Hd.mk (HB1.out.step s2)
                  have c0 := hq2.b0
                  have c1 := hq2.b1
                  have hrm := rpop_any HQ2.out.ref HOK.out true
                  rw [HN1.out, HE1.out] at hrm
                  simp only [if_true] at hrm
                  rw [HS1.out] at hrm
                  have HRM := Hd.mk hrm
                  clear y0 y1 y2 y3
                  clear hm hs hq2 s2 hrm HY
                  go_wp2_with fail
                  refine HRM.out.mono ?_
                  rintro e w5 ⟨v1', v2', rfl, hr, hB⟩
                  clear c0 c1 HRM
                  obtain ⟨f1, g1, rfl, _⟩ := hr.now.shape
                  obtain ⟨f2, g2, rfl, _⟩ := hr.marks.shape
                  obtain ⟨Nc, hNc⟩ : ∃ n, s1.now.length = n := ⟨_, rfl⟩
                  obtain ⟨Nd, hNd⟩ : ∃ n, s1.marks.length = n := ⟨_, rfl⟩
                  rw [hNc, hNd] at hr ⊢
                  obtain ⟨hq3, s3⟩ := HQ2.out.put hB hr
                  obtain ⟨h5, _⟩ := HQ2.out.below hB
                  have HQ3 := Hd.mk hq3
                  have HB3 := Hd.mk (HB2.out.step s3)
                  have c0 := h5.b0
                  have c1 := h5.b1
                  have f0 := h5.f 0
                  have f1' := h5.f 1
                  clear hr hB hNc hNd hq3 s3 h5
                  go_upto_region 44 with fail
                  obtain ⟨w6, hw6⟩ : ∃ W, ((w5.setCell ⟨R, 0, none⟩ (.slice f1 Nc g1)).setCell ⟨R, 1, none⟩ (.slice f2 Nd g2)) = W := ⟨_, rfl⟩
                  rw [hw6]
                  have hq3 := HQ3.out
                  have hb3 := HB3.out
                  rw [hw6] at hq3 hb3
                  have HQ3 := Hd.mk hq3
                  have HB3 := Hd.mk hb3
                  clear hw6 hq3 hb3 c0 c1 f0 f1'
                  have c0 := HQ3.out.b0
                  have c1 := HQ3.out.b1
                  obtain ⟨y4, hy4⟩ := HQ3.out.no
                  have HT1 := Hd.mk (tells_any hy4 HQ3.out.ref)
                  clear hy4
                  go_wp2_with fail
                  refine HT1.out.mono ?_
                  rintro e w7 ⟨rfl, hB7⟩
                  obtain ⟨hq4, s4⟩ := HQ3.out.below hB7
                  have HQ4 := Hd.mk hq4
                  have hb4 := HB3.out.step s4
                  have z0 := cells_cell hb4.was.now 0
                  have z1 := cells_cell hb4.was.now 1
                  simp only [List.getElem?_toArray, List.getElem?_cons_zero, List.getElem?_cons_succ] at z0 z1
                  obtain ⟨y5, hy5⟩ := hb4.cop.now
                  have HT2 := Hd.mk (tells_any hy5 hb4.ref)
                  clear hq4 s4 hb4 hy5 hB7 HT1 HQ3 HB3 c0 c1
                  go_wp2_with fail
                  refine HT2.out.mono ?_
                  rintro e w8 ⟨rfl, hB8⟩
                  obtain ⟨hq5, s5⟩ := HQ4.out.below hB8
                  have HQ5 := Hd.mk hq5
                  clear hq5 s5 hB8 HT2 HQ4 z0 z1
                  go_wp2_with fail
                  go_roundw
                  case rel => exact ⟨j + 1, _, _, _, _, by have := HLT.out; omega, by go_num, HQ5⟩
                  case measure => have := HLT.out; simp [intOf]; omega
                by_cases h6 : k8 = 6
                · subst h6
                  obtain ⟨n1, hn1⟩ : ∃ x, popN st = x := ⟨_, rfl⟩
                  obtain ⟨er, he1⟩ : ∃ x, popE st = x := ⟨_, rfl⟩
                  obtain ⟨s1, hs1⟩ : ∃ x, keepS st = x := ⟨_, rfl⟩
                  have HY := Hd.mk (y_keep HQ1.out.sys.mem (r := n1) (e := er) (st' := s1) hn1 he1 hs1)
                  have HN1 := Hd.mk hn1
                  have HE1 := Hd.mk he1
                  have HS1 := Hd.mk hs1
                  clear hn1 he1 hs1
                  go_wp2_with fail
                  refine HY.out.mono ?_
                  rintro e w4 ⟨rfl, hm, hs⟩
                  obtain ⟨hq2, s2⟩ := HQ1.out.mut hm hs
                  have HQ2 := Hd.mk hq2
                  have HB2 := Hd.mk (HB1.out.step s2)
                  have c0 := hq2.b0
                  have c1 := hq2.b1
                  have hrm := rpop_any HQ2.out.ref HOK.out false
                  rw [HN1.out, HE1.out] at hrm
                  simp only [Bool.false_eq_true, if_false] at hrm
                  rw [HS1.out] at hrm
                  have HRM := Hd.mk hrm
                  clear y0 y1 y2 y3
                  clear hm hs hq2 s2 hrm HY
                  go_wp2_with fail
                  refine HRM.out.mono ?_
                  rintro e w5 ⟨v1', v2', rfl, hr, hB⟩
                  clear c0 c1 HRM
                  obtain ⟨f1, g1, rfl, _⟩ := hr.now.shape
                  obtain ⟨f2, g2, rfl, _⟩ := hr.marks.shape
                  obtain ⟨Nc, hNc⟩ : ∃ n, s1.now.length = n := ⟨_, rfl⟩
                  obtain ⟨Nd, hNd⟩ : ∃ n, s1.marks.length = n := ⟨_, rfl⟩
                  rw [hNc, hNd] at hr ⊢
                  obtain ⟨hq3, s3⟩ := HQ2.out.put hB hr
                  obtain ⟨h5, _⟩ := HQ2.out.below hB
                  have HQ3 := Hd.mk hq3
                  have HB3 := Hd.mk (HB2.out.step s3)
                  have c0 := h5.b0
                  have c1 := h5.b1
                  have f0 := h5.f 0
                  have f1' := h5.f 1
                  clear hr hB hNc hNd hq3 s3 h5
                  go_upto_region 44 with fail
                  obtain ⟨w6, hw6⟩ : ∃ W, ((w5.setCell ⟨R, 0, none⟩ (.slice f1 Nc g1)).setCell ⟨R, 1, none⟩ (.slice f2 Nd g2)) = W := ⟨_, rfl⟩
                  rw [hw6]
                  have hq3 := HQ3.out
                  have hb3 := HB3.out
                  rw [hw6] at hq3 hb3
                  have HQ3 := Hd.mk hq3
                  have HB3 := Hd.mk hb3
                  clear hw6 hq3 hb3 c0 c1 f0 f1'
                  have c0 := HQ3.out.b0
                  have c1 := HQ3.out.b1
                  obtain ⟨y4, hy4⟩ := HQ3.out.no
                  have HT1 := Hd.mk (tells_any hy4 HQ3.out.ref)
                  clear hy4
                  go_wp2_with fail
                  refine HT1.out.mono ?_
                  rintro e w7 ⟨rfl, hB7⟩
                  obtain ⟨hq4, s4⟩ := HQ3.out.below hB7
                  have HQ4 := Hd.mk hq4
                  have hb4 := HB3.out.step s4
                  have z0 := cells_cell hb4.was.now 0
                  have z1 := cells_cell hb4.was.now 1
                  simp only [List.getElem?_toArray, List.getElem?_cons_zero, List.getElem?_cons_succ] at z0 z1
                  obtain ⟨y5, hy5⟩ := hb4.cop.now
                  have HT2 := Hd.mk (tells_any hy5 hb4.ref)
                  clear hq4 s4 hb4 hy5 hB7 HT1 HQ3 HB3 c0 c1
                  go_wp2_with fail
                  refine HT2.out.mono ?_
                  rintro e w8 ⟨rfl, hB8⟩
                  obtain ⟨hq5, s5⟩ := HQ4.out.below hB8
                  have HQ5 := Hd.mk hq5
                  clear hq5 s5 hB8 HT2 HQ4 z0 z1
                  go_wp2_with fail
                  go_roundw
                  case rel => exact ⟨j + 1, _, _, _, _, by have := HLT.out; omega, by go_num, HQ5⟩
                  case measure => have := HLT.out; simp [intOf]; omega
                by_cases h7 : k8 = 7
                · subst h7
                  obtain ⟨n1, hn1⟩ : ∃ x, ldV st.now x1 x2 = x := ⟨_, rfl⟩
                  obtain ⟨er, he1⟩ : ∃ x, ldE st.now x1 x2 = x := ⟨_, rfl⟩
                  have HY := Hd.mk (y_load HQ1.out.sys.mem (o := x1) (i := x2) (r := n1) (e := er) hn1 he1)
                  have hrl := rload_any HQ1.out.ref HOK.out.owners HOK.out.cells x1 x2
                  rw [hn1, he1] at hrl
                  have HRL := Hd.mk hrl
                  have c0 := HQ1.out.b0
                  have c1 := HQ1.out.b1
                  clear hn1 he1 hrl
                  go_wp2_with fail
                  refine HY.out.mono ?_
                  rintro e w4 ⟨rfl, rfl⟩
                  go_wp2_with fail
                  refine HRL.out.mono ?_
                  rintro e w5 ⟨rfl, hB⟩
                  obtain ⟨hq3, s3⟩ := HQ1.out.below hB
                  have HQ3 := Hd.mk hq3
                  have HB3 := Hd.mk (HB1.out.step s3)
                  clear hB hq3 s3 HY HRL c0 c1 y0 y1 y2 y3
                  have c0 := HQ3.out.b0
                  have c1 := HQ3.out.b1
                  obtain ⟨y4, hy4⟩ := HQ3.out.no
                  have HT1 := Hd.mk (tells_any hy4 HQ3.out.ref)
                  clear hy4
                  go_wp2_with fail
                  refine HT1.out.mono ?_
                  rintro e w7 ⟨rfl, hB7⟩
                  obtain ⟨hq4, s4⟩ := HQ3.out.below hB7
                  have HQ4 := Hd.mk hq4
                  have hb4 := HB3.out.step s4
                  have z0 := cells_cell hb4.was.now 0
                  have z1 := cells_cell hb4.was.now 1
                  simp only [List.getElem?_toArray, List.getElem?_cons_zero, List.getElem?_cons_succ] at z0 z1
                  obtain ⟨y5, hy5⟩ := hb4.cop.now
                  have HT2 := Hd.mk (tells_any hy5 hb4.ref)
                  clear hq4 s4 hb4 hy5 hB7 HT1 HQ3 HB3 c0 c1
                  go_wp2_with fail
                  refine HT2.out.mono ?_
                  rintro e w8 ⟨rfl, hB8⟩
                  obtain ⟨hq5, s5⟩ := HQ4.out.below hB8
                  have HQ5 := Hd.mk hq5
                  clear hq5 s5 hB8 HT2 HQ4 z0 z1
                  go_wp2_with fail
                  go_roundw
                  case rel => exact ⟨j + 1, _, _, _, _, by have := HLT.out; omega, by go_num, HQ5⟩
                  case measure => have := HLT.out; simp [intOf]; omega
                have t4 : (k8 == 4) = false := by simpa using h4
                have t5 : (k8 == 5) = false := by simpa using h5
                have t6 : (k8 == 6) = false := by simpa using h6
                have t7 : (k8 == 7) = false := by simpa using h7
                have u4 : decide (k8 = 4) = false := by simpa using h4
                have u5 : decide (k8 = 5) = false := by simpa using h5
                have u6 : decide (k8 = 6) = false := by simpa using h6
                have u7 : decide (k8 = 7) = false := by simpa using h7
                obtain ⟨n1, hn1⟩ : ∃ x, ldV st.now x1 x2 = x := ⟨_, rfl⟩
                obtain ⟨er, he1⟩ : ∃ x, ldE st.now x1 x2 = x := ⟨_, rfl⟩
                obtain ⟨s1, hs1⟩ : ∃ x, storeS st x1 x2 x3 = x := ⟨_, rfl⟩
                have HY := Hd.mk (y_store HQ1.out.sys.mem (o := x1) (i := x2) (v := x3) (r := n1) (e := er) (st' := s1) hn1 he1 hs1)
                have HN1 := Hd.mk hn1
                have HE1 := Hd.mk he1
                have HS1 := Hd.mk hs1
                clear hn1 he1 hs1
                go_wp2_with fail
                refine HY.out.mono ?_
                rintro e w4 ⟨rfl, hm, hs⟩
                obtain ⟨hq2, s2⟩ := HQ1.out.mut hm hs
                have HQ2 := Hd.mk hq2
                have HB2 := Hd.mk (HB1.out.step s2)
                have c0 := hq2.b0
                have c1 := hq2.b1
                have hrm := rstore_any HQ2.out.ref HOK.out x1 x2 x3
                rw [HN1.out, HE1.out, HS1.out] at hrm
                have HRM := Hd.mk hrm
                clear y0 y1 y2 y3
                have y0 := cells_cell HB2.out.act.now 0
                have y1 := cells_cell HB2.out.act.now 1
                have y2 := cells_cell HB2.out.act.now 2
                have y3 := cells_cell HB2.out.act.now 3
                simp only [List.getElem?_toArray, List.getElem?_cons_zero, List.getElem?_cons_succ] at y0 y1 y2 y3
                clear hm hs hq2 s2 hrm HY
                go_wp2_with fail
                refine HRM.out.mono ?_
                rintro e w5 ⟨v1', v2', rfl, hr, hB⟩
                clear c0 c1 HRM
                obtain ⟨f1, g1, rfl, _⟩ := hr.now.shape
                obtain ⟨f2, g2, rfl, _⟩ := hr.marks.shape
                obtain ⟨Nc, hNc⟩ : ∃ n, s1.now.length = n := ⟨_, rfl⟩
                obtain ⟨Nd, hNd⟩ : ∃ n, s1.marks.length = n := ⟨_, rfl⟩
                rw [hNc, hNd] at hr ⊢
                obtain ⟨hq3, s3⟩ := HQ2.out.put hB hr
                obtain ⟨h5, _⟩ := HQ2.out.below hB
                have HQ3 := Hd.mk hq3
                have HB3 := Hd.mk (HB2.out.step s3)
                have c0 := h5.b0
                have c1 := h5.b1
                have f0 := h5.f 0
                have f1' := h5.f 1
                clear hr hB hNc hNd hq3 s3 h5
                go_upto_region 44 with fail
                obtain ⟨w6, hw6⟩ : ∃ W, ((w5.setCell ⟨R, 0, none⟩ (.slice f1 Nc g1)).setCell ⟨R, 1, none⟩ (.slice f2 Nd g2)) = W := ⟨_, rfl⟩
                rw [hw6]
                have hq3 := HQ3.out
                have hb3 := HB3.out
                rw [hw6] at hq3 hb3
                have HQ3 := Hd.mk hq3
                have HB3 := Hd.mk hb3
                clear hw6 hq3 hb3 c0 c1 f0 f1'
                have c0 := HQ3.out.b0
                have c1 := HQ3.out.b1
                obtain ⟨y4, hy4⟩ := HQ3.out.no
                have HT1 := Hd.mk (tells_any hy4 HQ3.out.ref)
                clear hy4
                go_wp2_with fail
                refine HT1.out.mono ?_
                rintro e w7 ⟨rfl, hB7⟩
                obtain ⟨hq4, s4⟩ := HQ3.out.below hB7
                have HQ4 := Hd.mk hq4
                have hb4 := HB3.out.step s4
                have z0 := cells_cell hb4.was.now 0
                have z1 := cells_cell hb4.was.now 1
                simp only [List.getElem?_toArray, List.getElem?_cons_zero, List.getElem?_cons_succ] at z0 z1
                obtain ⟨y5, hy5⟩ := hb4.cop.now
                have HT2 := Hd.mk (tells_any hy5 hb4.ref)
                clear hq4 s4 hb4 hy5 hB7 HT1 HQ3 HB3 c0 c1
                go_wp2_with fail
                refine HT2.out.mono ?_
                rintro e w8 ⟨rfl, hB8⟩
                obtain ⟨hq5, s5⟩ := HQ4.out.below hB8
                have HQ5 := Hd.mk hq5
                clear hq5 s5 hB8 HT2 HQ4 z0 z1
                go_wp2_with fail
                go_roundw
                case rel => exact ⟨j + 1, _, _, _, _, by have := HLT.out; omega, by go_num, HQ5⟩
                case measure => have := HLT.out; simp [intOf]; omega
              · obtain rfl : j = q := by omega
                clear hlt hj
                go_wp2_with fail
                go_ret
                exact ⟨rfl, HA.out.bel.now⟩
end Go.Proofs.Ytnhkadknibinfaa
