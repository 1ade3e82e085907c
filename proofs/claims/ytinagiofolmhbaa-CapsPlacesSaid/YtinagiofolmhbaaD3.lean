/- The law CapsPlaces. -/
import Derived.Test.YtinagiofolmhbaaD1
import Derived.Test.YtinagiofolmhbaaPL5
import Derived.Test.YtinagiofolmhbaaC3
import Derived.Test.YtinagiofolmhbaaC7
namespace Go.Proofs.Ytinagiofolmhbaa
open Go.RowKit
set_option linter.unusedVariables false
set_option linter.unusedSimpArgs false


theorem cap_of {L : Lays Sm} {w : World} {a : Option Addr} {c : Nat} {ls : List Sm} (h : SrcN L w (.slice a ls.length c) ls) : ls.length ≤ c ∧ c ≤ maxLen ∨ ls = [] := by
  rcases h with ⟨rfl, a2, c2, hv, ha⟩ | ⟨b, off, c2, hv, h1, h2, _⟩
  · exact .inr rfl
  · simp only [Value.slice.injEq] at hv
    obtain ⟨_, _, rfl⟩ := hv
    exact .inl ⟨h1, h2⟩
theorem capI_of {w : World} {a : Option Addr} {n c : Nat} {l : List Int} (h : SrcI w (.slice a n c) l) : l.length ≤ c := by
  rcases h with ⟨hv, rfl⟩ | ⟨ad, c2, hv, h1, _⟩
  · simp
  · simp only [Value.slice.injEq] at hv
    obtain ⟨_, _, rfl⟩ := hv
    exact h1
set_option maxRecDepth 100000 in
set_option maxHeartbeats 4000000 in
theorem places_law {v v2 : Value} {ls ms : List Sm} {w : World} (hl : SrcN sL w v ls) (hl2 : SrcN sL w v2 ms) : Calls Try.prog 6 #[v, v2] w fun e w' => e = .returned (.bool true) ∧ Below w.heap.size w w' := by
  obtain ⟨a, c, rfl⟩ := hl.shape
  obtain ⟨a2, c2, rfl⟩ := hl2.shape
  have hcap : ls.length ≤ c := by rcases cap_of hl with h | rfl; exact h.1; simp
  have hcap2 : ms.length ≤ c2 := by rcases cap_of hl2 with h | rfl; exact h.1; simp
  have hq := hl.take (min ls.length 40) (by omega)
  have hq2 := hl2.take (min ms.length 20) (by omega)
  obtain ⟨n1, hn1⟩ : ∃ n, ls.length = n := ⟨_, rfl⟩
  obtain ⟨n2, hn2⟩ : ∃ n, ms.length = n := ⟨_, rfl⟩
  have hx1 : (ls.take (min ls.length 40)).length = min ls.length 40 := by rw [List.length_take]; omega
  have hx2 : (ms.take (min ms.length 20)).length = min ms.length 20 := by rw [List.length_take]; omega
  obtain ⟨l1, hl1⟩ : ∃ l, ls.take (min ls.length 40) = l := ⟨_, rfl⟩
  obtain ⟨m1, hm1⟩ : ∃ l, ms.take (min ms.length 20) = l := ⟨_, rfl⟩
  rw [hl1] at hq hx1
  rw [hm1] at hq2 hx2
  have s1 := hl.small
  have s2 := hl2.small
  rw [hn1] at hcap hq hx1 s1 ⊢
  rw [hn2] at hcap2 hq2 hx2 s2 ⊢
  have HQ1 : Hd (∃ q : Nat, min n1 40 = q ∧ q ≤ n1 ∧ q ≤ 40 ∧ SrcN sL w (.slice a q c) l1 ∧ l1.length = q) := ⟨_, rfl, by omega, by omega, hq, hx1⟩
  have HQ2 : Hd (∃ q : Nat, min n2 20 = q ∧ q ≤ n2 ∧ q ≤ 20 ∧ SrcN sL w (.slice a2 q c2) m1 ∧ m1.length = q) := ⟨_, rfl, by omega, by omega, hq2, hx2⟩
  clear hl hl2 hq hq2 hn1 hn2 hx1 hx2 hl1 hm1
  have HCP := Hd.mk (And.intro hcap hcap2)
  have HSM := Hd.mk (And.intro s1 s2)
  clear hcap hcap2 s1 s2
  go_enter Try.func6, Try.ntmps6
  go_wp2_with fail
  refine (awake_any _).mono ?_
  rintro e w1 ⟨rfl, hB0⟩
  have HB0 := Hd.mk hB0
  clear hB0
  obtain ⟨hcap, -⟩ := HCP.out
  obtain ⟨s1, -⟩ := HSM.out
  go_upto_region 4 with fail
  clear hcap s1
  obtain ⟨q1, hq1, hq1n, hq40, hS1, hlen1⟩ := HQ1.out
  rw [show min (n1 : Int) 40 = (q1 : Int) from by omega]
  try rw [show max (q1 : Int) 0 = (q1 : Int) from by omega]
  try rw [show Int.toNat (q1 : Int) = q1 from by omega]
  have HS1 := Hd.mk hS1
  have HL1 := Hd.mk hlen1
  clear hq1 hq1n hS1 hlen1 HQ1
  have HQ40 := Hd.mk hq40
  clear hq40
  go_wp2_with fail
  refine (made_any (HS1.out.below HB0.out)).mono ?_
  rintro e w2 ⟨M, rfl, hm, hB1⟩
  have HT := Hd.mk hm
  have HB2 := Hd.mk (HB0.out.trans (hB1.mono HB0.out.size))
  clear hm hB1 HB0
  obtain ⟨-, hcap2⟩ := HCP.out
  obtain ⟨-, s2⟩ := HSM.out
  go_upto_region 5 with fail
  obtain ⟨q2, hq2, hq2n, hq20, hS2, hlen2⟩ := HQ2.out
  have hmn : min (n2 : Int) 20 = (q2 : Int) := by omega
  have HMN := Hd.mk hmn
  have hqc : (q2 : Int) ≤ (c2 : Int) := by omega
  have HS2 := Hd.mk hS2
  have HL2 := Hd.mk hlen2
  have HQ20 := Hd.mk hq20
  clear hq2 hmn hS2 hlen2 HQ2 hq20 hq2n
  refine wp_region_held_drew (S := fun W => Below w2.heap.size w2 W) (by kernel_rfl) ((Below.refl _ _).drew) (fun hS_ => ?_)
  try dsimp only at hS_
  have HBD5 : Hd (Below w2.heap.size w2 w2.drew) := ⟨(Below.refl _ _).drew⟩
  refine takeW 0 (?_) rfl (by kernel_rfl) (by kernel_rfl) (by kernel_rfl) (fun _ _ _ h => h) (by rfl) ?_ hS_ ?_
  rotate_left
  · intro w hSw
    try dsimp only at hSw
    go_simp
    with_reducible rfl
  try simp only [Act.put, List.setIfInBounds_toArray, List.set_cons_zero, List.set_cons_succ]
  refine takeW 2 (?_) rfl (by kernel_rfl) (by kernel_rfl) (by kernel_rfl) (fun _ _ _ h => h) (by rfl) ?_ hS_ ?_
  rotate_left
  · intro w hSw
    try dsimp only at hSw
    go_simp
    with_reducible rfl
  try simp only [Act.put, List.setIfInBounds_toArray, List.set_cons_zero, List.set_cons_succ]
  refine takeW 3 (?_) rfl (by kernel_rfl) (by kernel_rfl) (by kernel_rfl) (fun _ _ _ h => h) (by rfl) ?_ hS_ ?_
  rotate_left
  · intro w hSw
    try dsimp only at hSw
    go_simp
    with_reducible rfl
  try simp only [Act.put, List.setIfInBounds_toArray, List.set_cons_zero, List.set_cons_succ]
  refine takeW 4 (?_) rfl (by kernel_rfl) (by kernel_rfl) (by kernel_rfl) (fun _ _ _ h => h) (by rfl) ?_ hS_ ?_
  rotate_left
  · intro w hSw
    try dsimp only at hSw
    go_simp
    with_reducible rfl
  try simp only [Act.put, List.setIfInBounds_toArray, List.set_cons_zero, List.set_cons_succ]
  refine takeW 5 (.int .i64 (q2 : Int)) rfl (by kernel_rfl) (by kernel_rfl) (by kernel_rfl) (fun _ _ _ h => h) (by rfl) ?_ hS_ ?_
  · intro w hSw
    try dsimp only at hSw
    go_simp
    first | done | exact HMN.out | (rw [HMN.out])
  try simp only [Act.put, List.setIfInBounds_toArray, List.set_cons_zero, List.set_cons_succ]
  clear s2 hcap2
  refine takeW 6 (?_) rfl (by kernel_rfl) (by kernel_rfl) (by kernel_rfl) (fun _ _ _ h => h) (by rfl) ?_ hS_ ?_
  rotate_left
  · intro w hSw
    try dsimp only at hSw
    go_simp
    with_reducible rfl
  try simp only [Act.put, List.setIfInBounds_toArray, List.set_cons_zero, List.set_cons_succ]
  refine wpAnyH_ready (rs := [1]) (by kernel_rfl) (by simp) (readyL rfl (fun K hK => ?_) AllReadyH.nil)
  go_simp
  refine (clone_sm _ l1 _ ((HS1.out.below HB2.out).below HBD5.out) (by have := HL1.out; have := HQ40.out; omega)).mono ?_
  rintro e w3 ⟨cv, rfl, ho3, hB3⟩
  have hS2_ : Below w2.heap.size w2 w3 := HBD5.out.trans (hB3.mono HBD5.out.size)
  refine hK.out _ _ hS2_ (fun _ => ?_)
  clear hK K hS_
  have hS_ := hS2_
  clear hS2_
  try simp only [Act.put, List.setIfInBounds_toArray, List.set_cons_zero, List.set_cons_succ]
  obtain ⟨i_, z_, hi_, hz_, hzs_, hsz_, hby_⟩ := info58
  have hB23 := hS_
  obtain ⟨v', w4, hr, ho, hg⟩ := OwnN.append (P := Try.prog) 22 i_ z_ 4 Try.underlying22 hi_ hz_ hsz_ hby_ hzs_ (by decide) ho3 hB3.size ((HS2.out.below HB2.out).below hB23) (by have := HL1.out; have := HL2.out; have := HQ40.out; have := HQ20.out; simp only [maxLen]; omega) (by have := HL1.out; have := HL2.out; have := HQ40.out; have := HQ20.out; omega)
  have hB4 := ho3.grown (hB3.mono (Nat.le_refl _)) hB3.size hg
  have HO := Hd.mk ho
  have HAP := Hd.mk hr
  have HB4 := Hd.mk hB4
  clear hr ho hg hB4 hi_ hz_ hzs_ hsz_ hby_ ho3
  refine wpAnyH_ready (rs := [7]) (by kernel_rfl) (by simp) (readyL rfl (fun K hK => ?_) AllReadyH.nil)
  refine if_then (by rfl) ?_
  refine wp_append_run _ _ _ rfl rfl rfl HAP.out ?_
  have hS2_ : Below w2.heap.size w2 w4 := HBD5.out.trans (HB4.out.mono HBD5.out.size)
  refine hK.out _ _ hS2_ (fun _ => ?_)
  clear hK K hS_
  have hS_ := hS2_
  clear hS2_
  try simp only [Act.put, List.setIfInBounds_toArray, List.set_cons_zero, List.set_cons_succ]
  clear hB3 hB23
  refine wpAnyH_ready (rs := [8]) (by kernel_rfl) (by simp) (readyL rfl (fun K hK => ?_) AllReadyH.nil)
  go_simp
  refine (made_any (OwnN.src HO.out)).mono ?_
  rintro e w5 ⟨M2, rfl, hm, hB5⟩
  have hS2_ : Below w2.heap.size w2 w5 := hS_.trans (hB5.mono hS_.size)
  refine hK.out _ _ hS2_ (fun _ => ?_)
  clear hK K hS_
  have hS_ := hS2_
  clear hS2_
  try simp only [Act.put, List.setIfInBounds_toArray, List.set_cons_zero, List.set_cons_succ]
  have HU := Hd.mk hm
  have HB5 := Hd.mk hS_
  clear hm hB5
  refine takeW 9 (?_) rfl (by kernel_rfl) (by kernel_rfl) (by kernel_rfl) (fun _ _ _ h => h) (by rfl) ?_ hS_ ?_
  rotate_left
  · intro w hSw
    try dsimp only at hSw
    go_simp
    with_reducible rfl
  try simp only [Act.put, List.setIfInBounds_toArray, List.set_cons_zero, List.set_cons_succ]
  refine takeW 10 (?_) rfl (by kernel_rfl) (by kernel_rfl) (by kernel_rfl) (fun _ _ _ h => h) (by rfl) ?_ hS_ ?_
  rotate_left
  · intro w hSw
    try dsimp only at hSw
    go_simp
    with_reducible rfl
  try simp only [Act.put, List.setIfInBounds_toArray, List.set_cons_zero, List.set_cons_succ]
  refine takeW 11 (?_) rfl (by kernel_rfl) (by kernel_rfl) (by kernel_rfl) (fun _ _ _ h => h) (by rfl) ?_ hS_ ?_
  rotate_left
  · intro w hSw
    try dsimp only at hSw
    go_simp
    with_reducible rfl
  try simp only [Act.put, List.setIfInBounds_toArray, List.set_cons_zero, List.set_cons_succ]
  refine takeW 12 (?_) rfl (by kernel_rfl) (by kernel_rfl) (by kernel_rfl) (fun _ _ _ h => h) (by rfl) ?_ hS_ ?_
  rotate_left
  · intro w hSw
    try dsimp only at hSw
    go_simp
    with_reducible rfl
  try simp only [Act.put, List.setIfInBounds_toArray, List.set_cons_zero, List.set_cons_succ]
  refine takeW 13 (?_) rfl (by kernel_rfl) (by kernel_rfl) (by kernel_rfl) (fun _ _ _ h => h) (by rfl) ?_ hS_ ?_
  rotate_left
  · intro w hSw
    try dsimp only at hSw
    go_simp
    with_reducible rfl
  try simp only [Act.put, List.setIfInBounds_toArray, List.set_cons_zero, List.set_cons_succ]
  refine wpAnyH_done (by kernel_rfl) ?_ _
  clear hqc hS_
  have HFW : Hd (Fw (madeS l1) (madeS (l1 ++ m1))) := ⟨made_fw (by have := HL1.out; have := HQ40.out; omega) (by have := HL2.out; have := HQ20.out; omega)⟩
  have HOKT : Hd (Ok (madeS l1)) := ⟨(made_sh l1).ok⟩
  have HOKU : Hd (Ok (madeS (l1 ++ m1))) := ⟨(made_sh (l1 ++ m1)).ok⟩
  obtain ⟨sT, hsT⟩ : ∃ x, madeS l1 = x := ⟨_, rfl⟩
  obtain ⟨sU, hsU⟩ : ∃ x, madeS (l1 ++ m1) = x := ⟨_, rfl⟩
  rw [hsT] at HFW HOKT HT
  rw [hsU] at HFW HOKU HU
  have HTA := Hd.mk (HT.out.below HB5.out).1
  have HBW := Hd.mk (HB2.out.trans (HB5.out.mono HB2.out.size))
  clear hsT hsU HT HB5 HB2 HS1 HS2 HL1 HL2 HQ40 HQ20 HO HAP HB4 HBD5 HMN HCP HSM
  obtain ⟨A, hA⟩ : ∃ A, w5 = A := ⟨_, rfl⟩
  rw [hA] at HTA HU HBW ⊢
  clear hA
  go_wp2_with fail
  go_loopw [9, 51] (fun q i Wd => ∃ W : Nat, W ≤ 17 ∧ i = .int .i64 W ∧ q = .int .i64 (cntA sU W : Nat) ∧ Hd (Below A.heap.size A Wd)) (fun _ i _ => 17 - (intOf i).toNat)
  case atStart => exact ⟨0, by omega, rfl, by rw [cntA_zero HOKU.out]; rfl, ⟨Below.refl _ _⟩⟩
  case round =>
    obtain ⟨W, hW, rfl, rfl, HB⟩ := hrel
    by_cases hlt : W < 17
    · have hbh : badH (W : Int) = false := by unfold badH; simp; omega
      have hfl := HFW.out.len (W : Int)
      have hfp := HFW.out.pre (W : Int)
      have hw0 : (0 : Int) ≤ (W : Int) := by omega
      have hw1 : (W : Int) < 17 := by omega
      have HW17 := Hd.mk (show W < 17 from hlt)
      have HWK1 : Hd (IntKind.i64.wrap ((W : Int) + 1) = (W : Int) + 1) := ⟨IntWalk.i64_in _ ⟨by omega, by omega⟩⟩
      have hb256 := HOKU.out.places (W : Int)
      obtain ⟨lb, hlb⟩ : ∃ l, placesS sT (W : Int) = l := ⟨_, rfl⟩
      obtain ⟨la, hla⟩ : ∃ l, placesS sU (W : Int) = l := ⟨_, rfl⟩
      rw [hlb, hla] at hfl hfp
      rw [hla] at hb256
      obtain ⟨nb, hnb⟩ : ∃ n, lb.length = n := ⟨_, rfl⟩
      obtain ⟨na, hna⟩ : ∃ n, la.length = n := ⟨_, rfl⟩
      rw [hnb, hna] at hfl
      rw [hnb] at hfp
      rw [hna] at hb256
      have HLB := Hd.mk hlb
      have HLA := Hd.mk hla
      have HNB := Hd.mk hnb
      have HNA := Hd.mk hna
      have HFP := Hd.mk hfp
      have HBH := Hd.mk hbh
      have HFL := Hd.mk hfl
      have HB256 := Hd.mk hb256
      clear hlt hW hbh hfl hfp hlb hla hnb hna hb256
      go_wp2_with fail
      refine (z_places (HTA.out.below HB.out).1 (who := W) HLB.out).mono ?_
      rintro e w6 ⟨av, cv1, rfl, hO, hB6⟩
      rw [HNB.out] at hO ⊢
      have HOB := Hd.mk hO
      have HB6 := Hd.mk (HB.out.trans (hB6.mono HB.out.size))
      clear hO hB6
      go_wp2_with fail
      refine (z_places (HU.out.below HB6.out).1 (who := W) HLA.out).mono ?_
      rintro e w7 ⟨av2, cv2, rfl, hO, hB7⟩
      rw [HNA.out] at hO ⊢
      have HOA := Hd.mk hO
      have HOB7 := Hd.mk (HOB.out.below hB7)
      have HB7 := Hd.mk (HB6.out.trans (hB7.mono HB6.out.size))
      clear hO hB7 HOB HB6
      have hd1 : decide ((na : Int) < (nb : Int)) = false := by have := HFL.out; simp; omega
      have hd0 : decide (na < nb) = false := by have := HFL.out; simp; omega
      have hcp := capI_of (OwnE.src HOA.out)
      rw [HNA.out] at hcp
      have hnc : (nb : Int) ≤ (cv2 : Int) := by have := HFL.out; omega
      have HEQ := Hd.mk (equal_at (b := true) (l := lb) (m := la.take nb) (by rw [HFP.out]; simp) (OwnE.src HOB7.out) (SrcI.takeA (OwnE.src HOA.out) nb (by rw [HNA.out]; exact HFL.out)))
      clear hcp
      go_wp2_with fail
      refine HEQ.out.mono ?_
      rintro e w8 ⟨rfl, hB8⟩
      have HOA8 := Hd.mk (HOA.out.below hB8)
      have HB8 := Hd.mk (HB7.out.trans (hB8.mono HB7.out.size))
      clear hB8 HOB7 HOA HB7 HEQ hnc hd1 hd0 hw0 hw1
      go_wp2_with fail
      obtain ⟨ca, hca⟩ : ∃ x, cntA sU W = x := ⟨_, rfl⟩
      have HCA := Hd.mk hca
      have hca256 : ca ≤ 256 := by rw [← hca]; exact Nat.le_trans (cntA_le _ _) HOKU.out.live
      have HC256 := Hd.mk hca256
      rw [hca]
      clear hca hca256
      go_loopw [9, 76] (fun q i Wd => ∃ k : Nat, k ≤ na ∧ i = .int .i64 k ∧ q = .int .i64 ((ca + cntI sU W k : Nat) : Int) ∧ Hd (Below w8.heap.size w8 Wd)) (fun _ i _ => na - (intOf i).toNat)
      case atStart => exact ⟨0, by omega, rfl, by rw [show cntI sU W 0 = 0 from rfl]; rfl, ⟨Below.refl _ _⟩⟩
      case round =>
        obtain ⟨k, hk, rfl, rfl, HBi⟩ := hrel
        by_cases hlt : k < na
        · have HKN := Hd.mk hlt
          have hl2 : k < la.length := by rw [HNA.out]; exact hlt
          have ho2 : k < (ownH sU (W : Int)).length := by rw [← places_len, HLA.out, HNA.out]; exact hlt
          obtain ⟨bq, offq, hbe, _, hcq⟩ := (OwnE.src (HOA8.out.below HBi.out)).at k hl2
          cases hbe
          have hpa := places_at ho2 (by rw [HLA.out]; exact hl2)
          simp only [HLA.out] at hpa
          rw [hpa] at hcq
          obtain ⟨hp1, hp2⟩ := plc_at HBH.out ho2
          have hmm := own_mem (List.getElem_mem ho2)
          obtain ⟨hg1, hg2⟩ := get_made HOKU.out hmm.1
          have hcs := cntI_succ ho2
          have hfa := fun (hi : k < (ownH sT (W : Int)).length) hg => HFW.out.at hi ho2 hg
          obtain ⟨⟨⟨x0, x1, x2, x3, x4⟩, gn⟩, hy⟩ : ∃ y, (ownH sU (W : Int))[k] = y := ⟨_, rfl⟩
          rw [hy] at hcq hp1 hp2 hmm hg1 hg2 hcs
          simp only [hy] at hfa
          simp only at hcq hp1 hp2 hmm hg1 hg2 hcs hfa
          obtain ⟨hmm1, hmm2⟩ := hmm
          have hsb := HOKU.out.lo _ hmm1
          have hnx2 := HOKU.out.n2
          simp only at hsb
          have HXR : Hd (-9223372036854775808 ≤ x0 ∧ x0 ≤ 9223372036854775807) := ⟨by omega⟩
          have v0 : wr.cell? ⟨bq, offq + k, none⟩ = some (.int .i64 x0) := hcq
          have k0 : (0 : Int) ≤ (k : Int) := by omega
          have k1 : (k : Int) < (na : Int) := by omega
          have HWK2 : Hd (IntKind.i64.wrap ((k : Int) + 1) = (k : Int) + 1) := ⟨IntWalk.i64_in _ ⟨by have := HB256.out; omega, by have := HB256.out; omega⟩⟩
          have hci := cntI_le HOKU.out (W : Int) k
          obtain ⟨ci, hcie⟩ : ∃ x, cntI sU (W : Int) k = x := ⟨_, rfl⟩
          rw [hcie] at hcs hci ⊢
          have HWK3 : Hd (IntKind.i64.wrap (((ca + ci : Nat) : Int) + 1) = ((ca + ci : Nat) : Int) + 1) := ⟨IntWalk.i64_in _ ⟨by have := HC256.out; omega, by have := HC256.out; omega⟩⟩
          obtain ⟨sn, hsn⟩ : ∃ n, ca + ci = n := ⟨_, rfl⟩
          rw [hsn] at HWK3 ⊢
          have HSN := Hd.mk hsn
          have HCS := Hd.mk hcs
          have HP1 := Hd.mk hp1
          have HP2 := Hd.mk hp2
          have HG1 := Hd.mk hg1
          have HG2 := Hd.mk hg2
          have HFA := Hd.mk hfa
          have HHO := Hd.mk hmm2
          clear hlt hk hl2 ho2 hcq hpa hp1 hp2 hmm1 hmm2 hg1 hg2 hcs hfa hy hsb hnx2 hci hcie hsn
          have HBt := Hd.mk (HB8.out.trans (HBi.out.mono HB8.out.size))
          go_wp2_with fail
          clear v0
          cases gn with
          | true =>
            refine (y_place (HU.out.below HBt.out).1 (who := W) (i := k) (a := 0) (b := 0) (c := 0) (d := 0) (r := 0#8) (e := 230) HP2.out HP1.out).mono ?_
            rintro e w9 ⟨rfl, hB9⟩
            have HB9 := Hd.mk (HBi.out.trans (hB9.mono HBi.out.size))
            clear hB9 HBi HBt
            go_upto_region 19 with fail
            obtain ⟨W9, hW9⟩ : ∃ W, (w9.alloc (.cells #[.int .i64 0, .int .i64 0, .int .i64 0, .int .i64 0, h8 0#8] 34)) = W := ⟨_, rfl⟩
            have hb9 : W9.heap[w9.heap.size]? = some (.cells #[.int .i64 0, .int .i64 0, .int .i64 0, .int .i64 0, h8 0#8] 34 (0, 0)) := by rw [← hW9]; exact heap_alloc_new _ _
            have hB9 : Below w8.heap.size w8 W9 := by rw [← hW9]; exact HB9.out.alloc HB9.out.size _
            rw [hW9]
            obtain ⟨X, hX⟩ : ∃ X, w9.heap.size = X := ⟨_, rfl⟩
            rw [hX] at hb9 ⊢
            have HBt := Hd.mk (HB8.out.trans (hB9.mono HB8.out.size))
            have HB9n := Hd.mk hB9
            have HX9 := Hd.mk hb9
            clear hW9 hX hb9 hB9 HB9
            go_wp2_with fail
            refine (y_get (HU.out.below HBt.out).1 (s := x0) (a := 0) (b := 0) (c := 0) (d := 0) (r := 0#8) (e := 6) HXR.out HG2.out HG1.out).mono ?_
            rintro e w10 ⟨rfl, hB10⟩
            have HX10 := Hd.mk ((hB10.block X (lt_heap HX9.out)).trans HX9.out)
            have HB10 := Hd.mk (HB9n.out.trans (hB10.mono HB9n.out.size))
            clear hB10 HX9 HB9n HBt
            go_upto_region 20 with fail
            obtain ⟨W11, hW11⟩ : ∃ W, (w10.alloc (.cells #[.int .i64 0, .int .i64 0, .int .i64 0, .int .i64 0, h8 0#8] 34)) = W := ⟨_, rfl⟩
            have hb11 : W11.heap[w10.heap.size]? = some (.cells #[.int .i64 0, .int .i64 0, .int .i64 0, .int .i64 0, h8 0#8] 34 (0, 0)) := by rw [← hW11]; exact heap_alloc_new _ _
            have hB11 : Below w10.heap.size w10 W11 := by rw [← hW11]; exact (Below.refl _ _).alloc (Nat.le_refl _) _
            rw [hW11]
            obtain ⟨Y, hY⟩ : ∃ X, w10.heap.size = X := ⟨_, rfl⟩
            rw [hY] at hb11 ⊢
            have HX11 := Hd.mk ((hB11.block X (lt_heap HX10.out)).trans HX10.out)
            have HY11 := Hd.mk hb11
            have HB11 := Hd.mk (HB10.out.trans (hB11.mono HB10.out.size))
            clear hW11 hY hb11 hB11 HB10 HX10
            have hwk := HWK2.out
            go_wp2_with fail
            go_roundw
            case rel => exact ⟨k + 1, by have := HKN.out; omega, by go_num, by rw [HCS.out, ← HSN.out]; rfl, HB11⟩
            case measure => have := HKN.out; simp [intOf]; omega
          | false =>
            refine (y_place (HU.out.below HBt.out).1 (who := W) (i := k) (a := x0) (b := x1) (c := x2) (d := x3) (r := x4) (e := 0) HP2.out HP1.out).mono ?_
            rintro e w9 ⟨rfl, hB9⟩
            have HB9 := Hd.mk (HBi.out.trans (hB9.mono HBi.out.size))
            clear hB9 HBi HBt
            go_upto_region 19 with fail
            obtain ⟨W9, hW9⟩ : ∃ W, (w9.alloc (.cells #[.int .i64 x0, .int .i64 x1, .int .i64 x2, .int .i64 x3, h8 x4] 34)) = W := ⟨_, rfl⟩
            have hb9 : W9.heap[w9.heap.size]? = some (.cells #[.int .i64 x0, .int .i64 x1, .int .i64 x2, .int .i64 x3, h8 x4] 34 (0, 0)) := by rw [← hW9]; exact heap_alloc_new _ _
            have hB9 : Below w8.heap.size w8 W9 := by rw [← hW9]; exact HB9.out.alloc HB9.out.size _
            rw [hW9]
            obtain ⟨X, hX⟩ : ∃ X, w9.heap.size = X := ⟨_, rfl⟩
            rw [hX] at hb9 ⊢
            have HBt := Hd.mk (HB8.out.trans (hB9.mono HB8.out.size))
            have HB9n := Hd.mk hB9
            have HX9 := Hd.mk hb9
            clear hW9 hX hb9 hB9 HB9
            go_wp2_with fail
            refine (y_get (HU.out.below HBt.out).1 (s := x0) (a := x0) (b := x1) (c := x2) (d := x3) (r := x4) (e := 0) HXR.out HG2.out HG1.out).mono ?_
            rintro e w10 ⟨rfl, hB10⟩
            have HX10 := Hd.mk ((hB10.block X (lt_heap HX9.out)).trans HX9.out)
            have HB10 := Hd.mk (HB9n.out.trans (hB10.mono HB9n.out.size))
            clear hB10 HX9 HB9n HBt
            go_upto_region 20 with fail
            obtain ⟨W11, hW11⟩ : ∃ W, (w10.alloc (.cells #[.int .i64 x0, .int .i64 x1, .int .i64 x2, .int .i64 x3, h8 x4] 34)) = W := ⟨_, rfl⟩
            have hb11 : W11.heap[w10.heap.size]? = some (.cells #[.int .i64 x0, .int .i64 x1, .int .i64 x2, .int .i64 x3, h8 x4] 34 (0, 0)) := by rw [← hW11]; exact heap_alloc_new _ _
            have hB11 : Below w10.heap.size w10 W11 := by rw [← hW11]; exact (Below.refl _ _).alloc (Nat.le_refl _) _
            rw [hW11]
            obtain ⟨Y, hY⟩ : ∃ X, w10.heap.size = X := ⟨_, rfl⟩
            rw [hY] at hb11 ⊢
            have HX11 := Hd.mk ((hB11.block X (lt_heap HX10.out)).trans HX10.out)
            have HY11 := Hd.mk hb11
            have HB11 := Hd.mk (HB10.out.trans (hB11.mono HB10.out.size))
            clear hW11 hY hb11 hB11 HB10 HX10
            have hx3 := HHO.out
            subst hx3
            have hnev : ∀ Wd, (binOp .neq 34 (.agg #[.int .i64 x0, .int .i64 x1, .int .i64 x2, .int .i64 (W : Int), h8 x4]) (.agg #[.int .i64 x0, .int .i64 x1, .int .i64 x2, .int .i64 (W : Int), h8 x4])).run Try.prog Wd = .ok (.bool false) Wd := fun Wd => (nev_h34 ⟨x0, x1, x2, W, x4⟩ ⟨x0, x1, x2, W, x4⟩ Wd).trans (by rw [decide_eq_true rfl]; rfl)
            have hgd := guard34
            have HNEV := Hd.mk hnev
            have y0 := (cells_cell HX11.out 0).trans (show _ = some (Value.int .i64 x0) from rfl)
            have y1 := (cells_cell HX11.out 1).trans (show _ = some (Value.int .i64 x1) from rfl)
            have y2 := (cells_cell HX11.out 2).trans (show _ = some (Value.int .i64 x2) from rfl)
            have y3 := (cells_cell HX11.out 3).trans (show _ = some (Value.int .i64 (W : Int)) from rfl)
            have y4 := (cells_cell HX11.out 4).trans (show _ = some (h8 x4) from rfl)
            have z0 := (cells_cell HY11.out 0).trans (show _ = some (Value.int .i64 x0) from rfl)
            have z1 := (cells_cell HY11.out 1).trans (show _ = some (Value.int .i64 x1) from rfl)
            have z2 := (cells_cell HY11.out 2).trans (show _ = some (Value.int .i64 x2) from rfl)
            have z3 := (cells_cell HY11.out 3).trans (show _ = some (Value.int .i64 (W : Int)) from rfl)
            have z4 := (cells_cell HY11.out 4).trans (show _ = some (h8 x4) from rfl)
            go_upto_region 23 with fail
            clear y0 y1 y2 y3 y4 z0 z1 z2 z3 z4
            by_cases hib : k < nb
            · have hd2 : decide ((k : Int) < (nb : Int)) = true := by simp; omega
              have hd3 : decide (k < nb) = true := by simp; omega
              have hib2 : (k : Int) < (nb : Int) := by omega
              have hot : k < (ownH sT (W : Int)).length := by rw [← places_len, HLB.out, HNB.out]; exact hib
              have hfe := HFA.out hot (by simp)
              obtain ⟨hq1, hq2⟩ := plc_at HBH.out hot
              rw [hfe] at hq1 hq2
              simp only at hq1 hq2
              have HQ1 := Hd.mk hq1
              have HQ2 := Hd.mk hq2
              have HBt := Hd.mk (HB8.out.trans (HB11.out.mono HB8.out.size))
              clear hot hfe hq1 hq2 hib
              go_upto_region 24 with fail
              clear hd2 hd3 hib2 hnev hgd
              go_wp2_with fail
              refine (y_place (HTA.out.below HBt.out).1 (who := W) (i := k) (a := x0) (b := x1) (c := x2) (d := W) (r := x4) (e := 0) HQ2.out HQ1.out).mono ?_
              rintro e w12 ⟨rfl, hB12⟩
              have HX12 := Hd.mk ((hB12.block X (lt_heap HX11.out)).trans HX11.out)
              have HB12 := Hd.mk (HB11.out.trans (hB12.mono HB11.out.size))
              clear hB12 HX11 HB11 HBt HY11
              go_upto_region 25 with fail
              obtain ⟨W13, hW13⟩ : ∃ V, (w12.alloc (.cells #[.int .i64 x0, .int .i64 x1, .int .i64 x2, .int .i64 (W : Int), h8 x4] 34)) = V := ⟨_, rfl⟩
              have hb13 : W13.heap[w12.heap.size]? = some (.cells #[.int .i64 x0, .int .i64 x1, .int .i64 x2, .int .i64 (W : Int), h8 x4] 34 (0, 0)) := by rw [← hW13]; exact heap_alloc_new _ _
              have hB13 : Below w12.heap.size w12 W13 := by rw [← hW13]; exact (Below.refl _ _).alloc (Nat.le_refl _) _
              rw [hW13]
              obtain ⟨Z, hZ⟩ : ∃ X, w12.heap.size = X := ⟨_, rfl⟩
              rw [hZ] at hb13 ⊢
              have HX13 := Hd.mk ((hB13.block X (lt_heap HX12.out)).trans HX12.out)
              have HZ13 := Hd.mk hb13
              have HB13 := Hd.mk (HB12.out.trans (hB13.mono HB12.out.size))
              clear hW13 hZ hb13 hB13 HB12 HX12
              have hnev := HNEV.out
              have hgd := guard34
              have y0 := (cells_cell HX13.out 0).trans (show _ = some (Value.int .i64 x0) from rfl)
              have y1 := (cells_cell HX13.out 1).trans (show _ = some (Value.int .i64 x1) from rfl)
              have y2 := (cells_cell HX13.out 2).trans (show _ = some (Value.int .i64 x2) from rfl)
              have y3 := (cells_cell HX13.out 3).trans (show _ = some (Value.int .i64 (W : Int)) from rfl)
              have y4 := (cells_cell HX13.out 4).trans (show _ = some (h8 x4) from rfl)
              have z0 := (cells_cell HZ13.out 0).trans (show _ = some (Value.int .i64 x0) from rfl)
              have z1 := (cells_cell HZ13.out 1).trans (show _ = some (Value.int .i64 x1) from rfl)
              have z2 := (cells_cell HZ13.out 2).trans (show _ = some (Value.int .i64 x2) from rfl)
              have z3 := (cells_cell HZ13.out 3).trans (show _ = some (Value.int .i64 (W : Int)) from rfl)
              have z4 := (cells_cell HZ13.out 4).trans (show _ = some (h8 x4) from rfl)
              go_upto_region 27 with fail
              clear y0 y1 y2 y3 y4 z0 z1 z2 z3 z4 hnev hgd
              have hwk3 := HWK3.out
              have hwk := HWK2.out
              go_wp2_with fail
              go_roundw
              case rel => exact ⟨k + 1, by have := HKN.out; omega, by go_num, by rw [HCS.out, if_neg (by simp), ← Nat.add_assoc, HSN.out]; go_num, HB13⟩
              case measure => have := HKN.out; simp [intOf]; omega
            · have hd2 : decide ((k : Int) < (nb : Int)) = false := by simp; omega
              have hd3 : decide (k < nb) = false := by simp; omega
              have hib2 : ¬ (k : Int) < (nb : Int) := by omega
              have hwk3 := HWK3.out
              clear hib
              have hwk := HWK2.out
              go_wp2_with fail
              go_roundw
              case rel => exact ⟨k + 1, by have := HKN.out; omega, by go_num, by rw [HCS.out, if_neg (by simp), ← Nat.add_assoc, HSN.out]; go_num, HB11⟩
              case measure => have := HKN.out; simp [intOf]; omega
        · obtain rfl : k = na := by omega
          have hci := cntI_all sU W
          have hcs := cntA_succ sU W
          have hlen := places_len sU W
          rw [HLA.out, HNA.out] at hlen
          rw [← hlen] at hci
          rw [HCA.out, ← hci] at hcs
          have HCS := Hd.mk hcs
          have hwk := HWK1.out
          clear hlt hk hci hcs hlen
          go_wp2_with fail
          go_roundw
          case rel => exact ⟨W + 1, by have := HW17.out; omega, by go_num, by rw [HCS.out], ⟨HB8.out.trans (HBi.out.mono HB8.out.size)⟩⟩
          case measure => have := HW17.out; simp [intOf]; omega
    · obtain rfl : W = 17 := by omega
      have hca := cntA_all HOKU.out
      rw [hca, show ((17 : Nat) : Int) = 17 from rfl]
      clear hlt hW hca
      go_wp2_with fail
      refine (y_len (HU.out.below HB.out).1 rfl).mono ?_
      rintro e wq ⟨rfl, rfl⟩
      go_wp2_with fail
      go_ret
      exact ⟨rfl, HBW.out.trans (HB.out.mono HBW.out.size)⟩
end Go.Proofs.Ytinagiofolmhbaa
