/- Contracts at given results; the laws' awake. -/
import Derived.Test.YtinagiofolmhbaaB8
namespace Go.Proofs.Ytinagiofolmhbaa
open Go.RowKit
set_option linter.unusedVariables false
set_option linter.unusedSimpArgs false


theorem Held.own {w w' : World} {pr : Nat → Prop} {base : Nat} {v : Value} {l : List Int} (h : AppI w' base v l) (hb : w.heap.size ≤ base) : Held (Go.Proofs.Ytinagiofolmhbaa.grow pr w w') w' (fun W => AppI W base v l) := by
  intro W hW
  refine OwnE.same h fun g cur fr hg hv => hW.block g (.inr ?_)
  have := World.ownsRow.lt h g hv
  omega
theorem Held.ownH {w w' : World} {pr : Nat → Prop} {base : Nat} {v : Value} {l : List Hn} (h : OwnN hL w' base 34 v l) (hb : w.heap.size ≤ base) : Held (Go.Proofs.Ytinagiofolmhbaa.grow pr w w') w' (fun W => OwnN hL W base 34 v l) := by
  intro W hW
  refine OwnN.same h fun g hv => hW.block g (.inr ?_)
  have := OwnN.lt h hv
  omega
theorem lit_box {w : World} {pr : Nat → Prop} {M : Nat} {st : St} (h : TabAt w pr M st) (o : Obj) :
    ∃ pr', TabAt (w.alloc o) pr' M st ∧ Held pr' (w.alloc o) (fun W => W.heap[w.heap.size]? = some o) ∧ Step pr w pr' (w.alloc o) := by
  have hB := (Below.refl w.heap.size w).alloc (Nat.le_refl _) o
  refine ⟨grow pr w (w.alloc o), (h.protect hB).1, fun W hW => ?_, Step.grow h.prs hB⟩
  show W.heap[w.heap.size]? = some o
  rw [hW.block _ (.inr ⟨Nat.le_refl _, by simp⟩)]
  exact heap_alloc_new _ _
/-- A literal slice of integers, out of its block. -/
theorem srcI_box {W : World} {b : Nat} {cs : Array Value} (h : W.heap[b]? = some (.cells cs 3 (0, 0))) (l : List Int) (hl : cs = (l.map fun n : Int => Value.int .i64 n).toArray) (hm : l.length ≤ 1000 := by decide) : SrcI W (.slice (some ⟨b, 0, none⟩) l.length l.length) l :=
  .inr ⟨⟨b, 0, none⟩, l.length, rfl, Nat.le_refl _, by simp only [maxLen]; omega, fun j hj => by
    rw [plain_add, Nat.zero_add, cells_cell h, hl]
    simp [hj]⟩
section
variable {w : World} {pr : Nat → Prop} {M : Nat} {st : St}
theorem y_root (h : TabAt w pr M st) {port tw : Int} {r : BitVec 8} {n e : Int} {st' : St} (hn : rootN st port tw r = n) (he : rootE st port tw r = e) (hs : rootS st port tw r = st') :
    Calls Try.prog 28 #[.pointer (some ⟨M, 0, none⟩), .int .i64 port, .int .i64 tw, h8 r] w fun e' w' => e' = .returned (.tuple #[.int .i64 n, .int .i64 e]) ∧ TabAt w' pr M st' ∧ Step pr w pr w' := by
  subst hn he hs
  obtain ⟨y, h⟩ := h
  exact (root_any h port tw r).mono fun e w' ⟨h1, h2, h3⟩ => ⟨h1, h2, .of h3⟩
theorem y_der (h : TabAt w pr M st) {s tw : Int} {r : BitVec 8} {n e : Int} {st' : St} (hb : -9223372036854775808 ≤ s ∧ s ≤ 9223372036854775807) (hn : derN st s tw r = n) (he : derE st s tw r = e) (hs : derS st s tw r = st') :
    Calls Try.prog 25 #[.pointer (some ⟨M, 0, none⟩), .int .i64 s, .int .i64 tw, h8 r] w fun e' w' => e' = .returned (.tuple #[.int .i64 n, .int .i64 e]) ∧ TabAt w' pr M st' ∧ Step pr w pr w' := by
  subst hn he hs
  obtain ⟨y, h⟩ := h
  exact (der_any h s tw r hb).mono fun e w' ⟨h1, h2, h3⟩ => ⟨h1, h2, .of h3⟩
theorem y_below (h : TabAt w pr M st) {s : Int} {l : List Int} {e : Int} (hb : -9223372036854775808 ≤ s ∧ s ≤ 9223372036854775807) (hl : belowS st s = l) (he : getE st s = e) :
    Calls Try.prog 27 #[.pointer (some ⟨M, 0, none⟩), .int .i64 s] w fun e' w' => ∃ a c pr', e' = .returned (.tuple #[.slice a l.length c, .int .i64 e]) ∧ TabAt w' pr' M st ∧ Held pr' w' (fun W => AppI W w.heap.size (.slice a l.length c) l) ∧ Step pr w pr' w' := by
  subst hl he
  obtain ⟨y, h⟩ := h
  refine (below_any h s hb).mono ?_
  rintro e' w' ⟨v, rfl, hO, hB⟩
  obtain ⟨a, c, rfl⟩ := (OwnE.src hO).shape
  exact ⟨a, c, grow pr w w', rfl, ⟨y, h.protect hB⟩, Held.own hO (Nat.le_refl _), Step.grow h.prs hB⟩
theorem y_revoke (h : TabAt w pr M st) {s : Int} {l : List Int} {e : Int} {st' : St} (hb : -9223372036854775808 ≤ s ∧ s ≤ 9223372036854775807) (hl : belowS st s = l) (he : getE st s = e) (hs : revokeS st s = st') :
    Calls Try.prog 17 #[.pointer (some ⟨M, 0, none⟩), .int .i64 s] w fun e' w' => ∃ a c pr', e' = .returned (.tuple #[.slice a l.length c, .int .i64 e]) ∧ TabAt w' pr' M st' ∧ Held pr' w' (fun W => AppI W w.heap.size (.slice a l.length c) l) ∧ Step pr w pr' w' := by
  subst hl he hs
  obtain ⟨y, h⟩ := h
  exact revoke_any h s hb
theorem y_close (h : TabAt w pr M st) {p : Int} {l : List Int} {st' : St} (hl : closeL st p = l) (hs : closeS st p = st') :
    Calls Try.prog 15 #[.pointer (some ⟨M, 0, none⟩), .int .i64 p] w fun e' w' => ∃ a c pr', e' = .returned (.slice a l.length c) ∧ TabAt w' pr' M st' ∧ Held pr' w' (fun W => AppI W w.heap.size (.slice a l.length c) l) ∧ Step pr w pr' w' := by
  subst hl hs
  obtain ⟨y, h⟩ := h
  exact close_any h p
theorem y_places (h : TabAt w pr M st) {who : Int} {l : List Int} (hl : placesS st who = l) :
    Calls Try.prog 30 #[.pointer (some ⟨M, 0, none⟩), .int .i64 who] w fun e' w' => ∃ a c pr', e' = .returned (.slice a l.length c) ∧ TabAt w' pr' M st ∧ Held pr' w' (fun W => AppI W w.heap.size (.slice a l.length c) l) ∧ Step pr w pr' w' := by
  subst hl
  obtain ⟨y, h⟩ := h
  refine (places_any h who).mono ?_
  rintro e' w' ⟨v, rfl, hO, hB⟩
  obtain ⟨a, c, rfl⟩ := (OwnE.src hO).shape
  exact ⟨a, c, grow pr w w', rfl, ⟨y, h.protect hB⟩, Held.own hO (Nat.le_refl _), Step.grow h.prs hB⟩
theorem y_all (h : TabAt w pr M st) {l : List Hn} (hl : liveS st = l) :
    Calls Try.prog 14 #[.pointer (some ⟨M, 0, none⟩)] w fun e' w' => ∃ a c pr', e' = .returned (.slice a l.length c) ∧ TabAt w' pr' M st ∧ Held pr' w' (fun W => OwnN hL W w.heap.size 34 (.slice a l.length c) l) ∧ Step pr w pr' w' := by
  subst hl
  obtain ⟨y, h⟩ := h
  refine (all_any h).mono ?_
  rintro e' w' ⟨v, rfl, hO, hB⟩
  obtain ⟨a, c, rfl⟩ := hO.shape
  exact ⟨a, c, grow pr w w', rfl, ⟨y, h.protect hB⟩, Held.ownH hO (Nat.le_refl _), Step.grow h.prs hB⟩
theorem y_get (h : TabAt w pr M st) {s a b c d e : Int} {r : BitVec 8} (hb : -9223372036854775808 ≤ s ∧ s ≤ 9223372036854775807) (hv : getV st s = ⟨a, b, c, d, r⟩) (he : getE st s = e) :
    Calls Try.prog 26 #[.pointer (some ⟨M, 0, none⟩), .int .i64 s] w fun e' w' => e' = .returned (.tuple #[.agg #[.int .i64 a, .int .i64 b, .int .i64 c, .int .i64 d, h8 r], .int .i64 e]) ∧ Below w.heap.size w w' := by
  subst he
  obtain ⟨y, h⟩ := h
  have := get_any h s hb
  rw [hv] at this
  exact this
theorem y_place (h : TabAt w pr M st) {who i a b c d e : Int} {r : BitVec 8} (hv : plcV st who i = ⟨a, b, c, d, r⟩) (he : plcE st who i = e) :
    Calls Try.prog 29 #[.pointer (some ⟨M, 0, none⟩), .int .i64 who, .int .i64 i] w fun e' w' => e' = .returned (.tuple #[.agg #[.int .i64 a, .int .i64 b, .int .i64 c, .int .i64 d, h8 r], .int .i64 e]) ∧ Below w.heap.size w w' := by
  subst he
  obtain ⟨y, h⟩ := h
  have := place_any h who i
  rw [hv] at this
  exact this
theorem y_len (h : TabAt w pr M st) {n : Int} (hn : ((liveS st).length : Int) = n) : Calls Try.prog 24 #[.pointer (some ⟨M, 0, none⟩)] w fun e' w' => e' = .returned (.int .i64 n) ∧ w = w' := by
  subst hn
  obtain ⟨y, h⟩ := h
  exact len_any h
theorem y_next (h : TabAt w pr M st) {n : Int} (hn : st.next = n) : Calls Try.prog 20 #[.pointer (some ⟨M, 0, none⟩)] w fun e' w' => e' = .returned (.int .i64 n) ∧ w = w' := by
  subst hn
  obtain ⟨y, h⟩ := h
  exact next_any h
end

set_option maxRecDepth 100000 in
set_option maxHeartbeats 4000000 in
theorem awake_any (w : World) : Calls Try.prog 11 #[] w fun e w' => e = .returned (.bool true) ∧ Below w.heap.size w w' := by
  go_enter Try.func11, Try.ntmps11
  go_wp2_with fail
  refine (new_any 7 w (by decide)).mono ?_
  rintro e w1 ⟨M, rfl, hm, hB⟩
  have HM0 := Hd.mk hm
  have FB0 := Hd.mk (Held.below hB (pr := fun k => k < w.heap.size) (fun k hk => hk))
  clear hm hB
  go_wp2_with fail
  refine (y_root HM0.out (port := 3) (tw := 0) (r := 15#8) (n := 7) (e := 0) (st' := ⟨8, [(⟨7, 0, 3, 0, 15#8⟩, false)]⟩) (by decide) (by decide) (by rfl)).mono ?_
  rintro e w1 ⟨rfl, hm, hs⟩
  have FB_2 := Hd.mk (FB0.out.step hs)
  have HM2 := Hd.mk hm
  clear FB0 HM0
  clear hs hm
  go_wp2_with fail
  refine (y_der HM2.out (s := 7) (tw := 2) (r := 5#8) (by decide) (n := 8) (e := 0) (st' := ⟨9, [(⟨7, 0, 3, 0, 15#8⟩, false), (⟨8, 7, 3, 2, 5#8⟩, false)]⟩) (by decide) (by decide) (by rfl)).mono ?_
  rintro e w3 ⟨rfl, hm, hs⟩
  have FB_4 := Hd.mk (FB_2.out.step hs)
  have HM4 := Hd.mk hm
  clear FB_2 HM2
  clear hs hm
  go_wp2_with fail
  refine (y_der HM4.out (s := 8) (tw := 1) (r := 1#8) (by decide) (n := 9) (e := 0) (st' := ⟨10, [(⟨7, 0, 3, 0, 15#8⟩, false), (⟨8, 7, 3, 2, 5#8⟩, false), (⟨9, 8, 3, 1, 1#8⟩, false)]⟩) (by decide) (by decide) (by rfl)).mono ?_
  rintro e w5 ⟨rfl, hm, hs⟩
  have FB_6 := Hd.mk (FB_4.out.step hs)
  have HM6 := Hd.mk hm
  clear FB_4 HM4
  clear hs hm
  go_wp2_with fail
  refine (y_der HM6.out (s := 9) (tw := 0) (r := 1#8) (by decide) (n := 0) (e := 221) (st' := ⟨10, [(⟨7, 0, 3, 0, 15#8⟩, false), (⟨8, 7, 3, 2, 5#8⟩, false), (⟨9, 8, 3, 1, 1#8⟩, false)]⟩) (by decide) (by decide) (by rfl)).mono ?_
  rintro e w7 ⟨rfl, hm, hs⟩
  have FB_8 := Hd.mk (FB_6.out.step hs)
  have HM8 := Hd.mk hm
  clear FB_6 HM6
  clear hs hm
  go_wp2_with fail
  refine (y_der HM8.out (s := 7) (tw := 0) (r := 7#8) (by decide) (n := 10) (e := 0) (st' := ⟨11, [(⟨7, 0, 3, 0, 15#8⟩, false), (⟨8, 7, 3, 2, 5#8⟩, false), (⟨9, 8, 3, 1, 1#8⟩, false), (⟨10, 7, 3, 0, 7#8⟩, false)]⟩) (by decide) (by decide) (by rfl)).mono ?_
  rintro e w9 ⟨rfl, hm, hs⟩
  have FB_10 := Hd.mk (FB_8.out.step hs)
  have HM10 := Hd.mk hm
  clear FB_8 HM8
  clear hs hm
  go_wp2_with fail
  refine (y_below HM10.out (s := 8) (l := [8, 9]) (e := 0) (by decide) (by decide) (by decide)).mono ?_
  rintro e w11 ⟨a11, c11, p11, rfl, hm, hf, hs⟩
  have FNb11 := Hd.mk hf
  clear hf
  have FB_12 := Hd.mk (FB_10.out.step hs)
  have HM12 := Hd.mk hm
  clear FB_10 HM10
  clear hs hm
  go_wp2_with fail
  refine (y_revoke HM12.out (s := 8) (l := [8, 9]) (e := 0) (st' := ⟨11, [(⟨7, 0, 3, 0, 15#8⟩, false), (⟨8, 7, 3, 2, 5#8⟩, true), (⟨9, 8, 3, 1, 1#8⟩, true), (⟨10, 7, 3, 0, 7#8⟩, false)]⟩) (by decide) (by decide) (by decide) (by rfl)).mono ?_
  rintro e w13 ⟨a13, c13, p13, rfl, hm, hf, hs⟩
  have FNr13 := Hd.mk hf
  clear hf
  have FB_14 := Hd.mk (FB_12.out.step hs)
  have Fb_14 := Hd.mk (FNb11.out.step hs)
  have HM14 := Hd.mk hm
  clear FB_12 FNb11 HM12
  clear hs hm
  go_wp2_with fail
  refine (y_place HM14.out (who := 1) (i := 0) (a := 0) (b := 0) (c := 0) (d := 0) (r := 0#8) (e := 230) (by rfl) (by decide)).mono ?_
  rintro e w15 ⟨rfl, hB⟩
  obtain ⟨hm, hs⟩ := HM14.out.below hB
  clear hB
  have FB_16 := Hd.mk (FB_14.out.step hs)
  have Fb_16 := Hd.mk (Fb_14.out.step hs)
  have Fr_16 := Hd.mk (FNr13.out.step hs)
  have HM16 := Hd.mk hm
  clear FB_14 Fb_14 FNr13 HM14
  clear hs hm
  go_wp2_with fail
  obtain ⟨A17, hW⟩ : ∃ W, (w15.alloc (.cells #[.int .i64 0, .int .i64 0, .int .i64 0, .int .i64 0, h8 0#8] 34)) = W := ⟨_, rfl⟩
  obtain ⟨p17, hm, hf, hs⟩ := lit_box HM16.out (.cells #[.int .i64 0, .int .i64 0, .int .i64 0, .int .i64 0, h8 0#8] 34)
  rw [hW] at hm hf hs
  rw [hW]
  clear hW
  have FNx17 := Hd.mk hf
  clear hf
  have FB_18 := Hd.mk (FB_16.out.step hs)
  have Fb_18 := Hd.mk (Fb_16.out.step hs)
  have Fr_18 := Hd.mk (Fr_16.out.step hs)
  have HM18 := Hd.mk hm
  clear FB_16 Fb_16 Fr_16 HM16
  clear hs hm
  clear FNx17
  refine (y_place HM18.out (who := 0) (i := 1) (a := 10) (b := 7) (c := 3) (d := 0) (r := 7#8) (e := 0) (by rfl) (by decide)).mono ?_
  rintro e w19 ⟨rfl, hB⟩
  obtain ⟨hm, hs⟩ := HM18.out.below hB
  clear hB
  have FB_20 := Hd.mk (FB_18.out.step hs)
  have Fb_20 := Hd.mk (Fb_18.out.step hs)
  have Fr_20 := Hd.mk (Fr_18.out.step hs)
  have HM20 := Hd.mk hm
  clear FB_18 Fb_18 Fr_18 HM18
  clear hs hm
  go_wp2_with fail
  obtain ⟨A21, hW⟩ : ∃ W, (w19.alloc (.cells #[.int .i64 10, .int .i64 7, .int .i64 3, .int .i64 0, h8 7#8] 34)) = W := ⟨_, rfl⟩
  obtain ⟨p21, hm, hf, hs⟩ := lit_box HM20.out (.cells #[.int .i64 10, .int .i64 7, .int .i64 3, .int .i64 0, h8 7#8] 34)
  rw [hW] at hm hf hs
  rw [hW]
  clear hW
  have FNy21 := Hd.mk hf
  clear hf
  have FB_22 := Hd.mk (FB_20.out.step hs)
  have Fb_22 := Hd.mk (Fb_20.out.step hs)
  have Fr_22 := Hd.mk (Fr_20.out.step hs)
  have HM22 := Hd.mk hm
  clear FB_20 Fb_20 Fr_20 HM20
  clear hs hm
  refine (y_revoke HM22.out (s := 8) (l := []) (e := 6) (st' := ⟨11, [(⟨7, 0, 3, 0, 15#8⟩, false), (⟨8, 7, 3, 2, 5#8⟩, true), (⟨9, 8, 3, 1, 1#8⟩, true), (⟨10, 7, 3, 0, 7#8⟩, false)]⟩) (by decide) (by decide) (by decide) (by rfl)).mono ?_
  rintro e w23 ⟨a23, c23, p23, rfl, hm, hf, hs⟩
  have FNr223 := Hd.mk hf
  clear hf
  have FB_24 := Hd.mk (FB_22.out.step hs)
  have Fb_24 := Hd.mk (Fb_22.out.step hs)
  have Fr_24 := Hd.mk (Fr_22.out.step hs)
  have Fy_24 := Hd.mk (FNy21.out.step hs)
  have HM24 := Hd.mk hm
  clear FB_22 Fb_22 Fr_22 FNy21 HM22
  clear hs hm
  go_wp2_with fail
  obtain ⟨A25, hW⟩ : ∃ W, (w23.alloc (.cells #[.int .i64 8, .int .i64 9] 3)) = W := ⟨_, rfl⟩
  obtain ⟨p25, hm, hf, hs⟩ := lit_box HM24.out (.cells #[.int .i64 8, .int .i64 9] 3)
  rw [hW] at hm hf hs
  rw [hW]
  clear hW
  have FNlb25 := Hd.mk (hf.imp fun W hW => srcI_box hW [8, 9] rfl)
  clear hf
  have FB_26 := Hd.mk (FB_24.out.step hs)
  have Fb_26 := Hd.mk (Fb_24.out.step hs)
  have Fr_26 := Hd.mk (Fr_24.out.step hs)
  have Fy_26 := Hd.mk (Fy_24.out.step hs)
  have Fr2_26 := Hd.mk (FNr223.out.step hs)
  have HM26 := Hd.mk hm
  clear FB_24 Fb_24 Fr_24 Fy_24 FNr223 HM24
  clear hs hm
  refine (same_at (l := [8, 9]) (m := [8, 9]) (b := true) (by decide) (OwnE.src Fb_26.out.now) FNlb25.out.now).mono ?_
  rintro e w27 ⟨rfl, hB⟩
  obtain ⟨hm, hs⟩ := HM26.out.below hB
  clear hB
  have FB_28 := Hd.mk (FB_26.out.step hs)
  have Fb_28 := Hd.mk (Fb_26.out.step hs)
  have Fr_28 := Hd.mk (Fr_26.out.step hs)
  have Fy_28 := Hd.mk (Fy_26.out.step hs)
  have Fr2_28 := Hd.mk (Fr2_26.out.step hs)
  have Flb_28 := Hd.mk (FNlb25.out.step hs)
  have HM28 := Hd.mk hm
  clear FB_26 Fb_26 Fr_26 Fy_26 Fr2_26 FNlb25 HM26
  clear hs hm
  clear Flb_28
  go_wp2_with fail
  obtain ⟨A29, hW⟩ : ∃ W, (w27.alloc (.cells #[.int .i64 8, .int .i64 9] 3)) = W := ⟨_, rfl⟩
  obtain ⟨p29, hm, hf, hs⟩ := lit_box HM28.out (.cells #[.int .i64 8, .int .i64 9] 3)
  rw [hW] at hm hf hs
  rw [hW]
  clear hW
  have FNlr29 := Hd.mk (hf.imp fun W hW => srcI_box hW [8, 9] rfl)
  clear hf
  have FB_30 := Hd.mk (FB_28.out.step hs)
  have Fb_30 := Hd.mk (Fb_28.out.step hs)
  have Fr_30 := Hd.mk (Fr_28.out.step hs)
  have Fy_30 := Hd.mk (Fy_28.out.step hs)
  have Fr2_30 := Hd.mk (Fr2_28.out.step hs)
  have HM30 := Hd.mk hm
  clear FB_28 Fb_28 Fr_28 Fy_28 Fr2_28 HM28
  clear hs hm
  refine (same_at (l := [8, 9]) (m := [8, 9]) (b := true) (by decide) (OwnE.src Fr_30.out.now) FNlr29.out.now).mono ?_
  rintro e w31 ⟨rfl, hB⟩
  obtain ⟨hm, hs⟩ := HM30.out.below hB
  clear hB
  have FB_32 := Hd.mk (FB_30.out.step hs)
  have Fb_32 := Hd.mk (Fb_30.out.step hs)
  have Fr_32 := Hd.mk (Fr_30.out.step hs)
  have Fy_32 := Hd.mk (Fy_30.out.step hs)
  have Fr2_32 := Hd.mk (Fr2_30.out.step hs)
  have Flr_32 := Hd.mk (FNlr29.out.step hs)
  have HM32 := Hd.mk hm
  clear FB_30 Fb_30 Fr_30 Fy_30 Fr2_30 FNlr29 HM30
  clear hs hm
  clear Flr_32
  have hy := Fy_32.out.now
  have y0 := (cells_cell hy 0).trans (show _ = some (Value.int .i64 10) from rfl)
  have y1 := (cells_cell hy 1).trans (show _ = some (Value.int .i64 7) from rfl)
  have y2 := (cells_cell hy 2).trans (show _ = some (Value.int .i64 3) from rfl)
  have y3 := (cells_cell hy 3).trans (show _ = some (Value.int .i64 0) from rfl)
  have y4 := (cells_cell hy 4).trans (show _ = some (h8 7#8) from rfl)
  have heq : ∀ W, (binOp .eql 34 (.agg #[.int .i64 10, .int .i64 7, .int .i64 3, .int .i64 0, h8 7#8]) (.agg #[.int .i64 10, .int .i64 7, .int .i64 3, .int .i64 0, .int .u8 7])).run Try.prog W = .ok (.bool true) W := fun W => (eqv_h34 ⟨10, 7, 3, 0, 7#8⟩ ⟨10, 7, 3, 0, 7#8⟩ W).trans (by rw [decide_eq_true rfl])
  have hgd := guard34
  clear hy
  go_wp2_with fail
  clear y0 y1 y2 y3 y4 heq hgd
  refine (y_close HM32.out (p := 3) (l := [7, 10]) (st' := ⟨11, [(⟨7, 0, 3, 0, 15#8⟩, true), (⟨8, 7, 3, 2, 5#8⟩, true), (⟨9, 8, 3, 1, 1#8⟩, true), (⟨10, 7, 3, 0, 7#8⟩, true)]⟩) (by decide) (by rfl)).mono ?_
  rintro e w33 ⟨a33, c33, p33, rfl, hm, hf, hs⟩
  have FNc33 := Hd.mk hf
  clear hf
  have FB_34 := Hd.mk (FB_32.out.step hs)
  have Fb_34 := Hd.mk (Fb_32.out.step hs)
  have Fr_34 := Hd.mk (Fr_32.out.step hs)
  have Fy_34 := Hd.mk (Fy_32.out.step hs)
  have Fr2_34 := Hd.mk (Fr2_32.out.step hs)
  have HM34 := Hd.mk hm
  clear FB_32 Fb_32 Fr_32 Fy_32 Fr2_32 HM32
  clear hs hm
  go_wp2_with fail
  obtain ⟨A35, hW⟩ : ∃ W, (w33.alloc (.cells #[.int .i64 7, .int .i64 10] 3)) = W := ⟨_, rfl⟩
  obtain ⟨p35, hm, hf, hs⟩ := lit_box HM34.out (.cells #[.int .i64 7, .int .i64 10] 3)
  rw [hW] at hm hf hs
  rw [hW]
  clear hW
  have FNlc35 := Hd.mk (hf.imp fun W hW => srcI_box hW [7, 10] rfl)
  clear hf
  have FB_36 := Hd.mk (FB_34.out.step hs)
  have Fb_36 := Hd.mk (Fb_34.out.step hs)
  have Fr_36 := Hd.mk (Fr_34.out.step hs)
  have Fy_36 := Hd.mk (Fy_34.out.step hs)
  have Fr2_36 := Hd.mk (Fr2_34.out.step hs)
  have Fc_36 := Hd.mk (FNc33.out.step hs)
  have HM36 := Hd.mk hm
  clear FB_34 Fb_34 Fr_34 Fy_34 Fr2_34 FNc33 HM34
  clear hs hm
  refine (same_at (l := [7, 10]) (m := [7, 10]) (b := true) (by decide) (OwnE.src Fc_36.out.now) FNlc35.out.now).mono ?_
  rintro e w37 ⟨rfl, hB⟩
  obtain ⟨hm, hs⟩ := HM36.out.below hB
  clear hB
  have FB_38 := Hd.mk (FB_36.out.step hs)
  have Fb_38 := Hd.mk (Fb_36.out.step hs)
  have Fr_38 := Hd.mk (Fr_36.out.step hs)
  have Fy_38 := Hd.mk (Fy_36.out.step hs)
  have Fr2_38 := Hd.mk (Fr2_36.out.step hs)
  have Fc_38 := Hd.mk (Fc_36.out.step hs)
  have Flc_38 := Hd.mk (FNlc35.out.step hs)
  have HM38 := Hd.mk hm
  clear FB_36 Fb_36 Fr_36 Fy_36 Fr2_36 Fc_36 FNlc35 HM36
  clear hs hm
  clear Flc_38
  go_wp2_with fail
  refine (y_next HM38.out (n := 11) rfl).mono ?_
  rintro e w39 ⟨rfl, rfl⟩
  go_wp2_with fail
  go_ret
  exact ⟨rfl, FB_38.out.now⟩
end Go.Proofs.Ytinagiofolmhbaa
