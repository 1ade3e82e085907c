/- Contracts at given results; the laws' awake. -/
import Derived.Test.YtnhkadknibinfaaB8
namespace Go.Proofs.Ytnhkadknibinfaa
open Go.RowKit
set_option linter.unusedVariables false


theorem lit_box {w : World} {pr : Nat → Prop} {M : Nat} {st : St} (h : MemAt w pr M st) (o : Obj) :
    ∃ pr', MemAt (w.alloc o) pr' M st ∧ Held pr' (w.alloc o) (fun W => W.heap[w.heap.size]? = some o) ∧ Step pr w pr' (w.alloc o) := by
  have hB := (Below.refl w.heap.size w).alloc (Nat.le_refl _) o
  refine ⟨grow pr w (w.alloc o), h.protect hB, fun W hW => ?_, Step.grow h.prs hB⟩
  show W.heap[w.heap.size]? = some o
  rw [hW.block _ (.inr ⟨Nat.le_refl _, by simp⟩)]
  exact heap_alloc_new _ _
section
variable {w : World} {pr : Nat → Prop} {M : Nat} {st : St}
theorem y_store (h : MemAt w pr M st) {o i v r e : Int} {st' : St} (hr : ldV st.now o i = r) (he : ldE st.now o i = e) (hs : storeS st o i v = st') :
    Calls Try.prog 24 #[.pointer (some ⟨M, 0, none⟩), .int .i64 o, .int .i64 i, .int .i64 v] w fun e' w' => e' = .returned (.tuple #[.int .i64 r, .int .i64 e]) ∧ MemAt w' pr M st' ∧ Step pr w pr w' := by
  subst hr he hs; exact x_store h o i v
theorem y_load (h : MemAt w pr M st) {o i r e : Int} (hr : ldV st.now o i = r) (he : ldE st.now o i = e) :
    Calls Try.prog 21 #[.pointer (some ⟨M, 0, none⟩), .int .i64 o, .int .i64 i] w fun e' w' => e' = .returned (.tuple #[.int .i64 r, .int .i64 e]) ∧ w = w' := by
  subst hr he; exact x_load h o i
theorem y_mark (h : MemAt w pr M st) {r e : Int} {st' : St} (hr : markN st = r) (he : markE st = e) (hs : markS st = st') :
    Calls Try.prog 16 #[.pointer (some ⟨M, 0, none⟩)] w fun e' w' => e' = .returned (.tuple #[.int .i64 r, .int .i64 e]) ∧ MemAt w' pr M st' ∧ Step pr w pr w' := by
  subst hr he hs; exact x_mark h
theorem y_back (h : MemAt w pr M st) {r e : Int} {st' : St} (hr : popN st = r) (he : popE st = e) (hs : backS st = st') :
    Calls Try.prog 17 #[.pointer (some ⟨M, 0, none⟩)] w fun e' w' => e' = .returned (.tuple #[.int .i64 r, .int .i64 e]) ∧ MemAt w' pr M st' ∧ Step pr w pr w' := by
  subst hr he hs; exact x_back h
theorem y_keep (h : MemAt w pr M st) {r e : Int} {st' : St} (hr : popN st = r) (he : popE st = e) (hs : keepS st = st') :
    Calls Try.prog 20 #[.pointer (some ⟨M, 0, none⟩)] w fun e' w' => e' = .returned (.tuple #[.int .i64 r, .int .i64 e]) ∧ MemAt w' pr M st' ∧ Step pr w pr w' := by
  subst hr he hs; exact x_keep h
end

/-- A literal slice of changes, out of its block. -/
theorem srcD_box {W : World} {b : Nat} {cs : Array Value} (h : W.heap[b]? = some (.cells cs 39 (0, 0))) (l : List Ch) (hl : cs = (flat4 l).toArray) (hm : l.length ≤ 1000 := by decide) : SrcD W (.slice (some ⟨b, 0, none⟩) l.length l.length) l :=
  .inr ⟨b, 0, l.length, rfl, Nat.le_refl _, by simp only [maxLen]; omega, (Array.getElem?_eq_some_iff.1 h).1, fun j hj r hr => by
    rw [cells_cell h, Nat.zero_add, hl]
    simpa using flat4_get l j hj r hr⟩

set_option maxRecDepth 100000 in
set_option maxHeartbeats 4000000 in
theorem awake_any (w : World) : Calls Try.prog 10 #[] w fun e w' => e = .returned (.bool true) ∧ Below w.heap.size w w' := by
  go_enter Try.func10, Try.ntmps10
  go_wp2_with fail
  obtain ⟨wl, hW⟩ : ∃ W, (w.alloc (.cells #[.int .i64 2, .int .i64 3] 3)) = W := ⟨_, rfl⟩
  have hX : Below w.heap.size w wl := by rw [← hW]; exact (Below.refl _ _).alloc (Nat.le_refl _) _
  have hS : SrcI wl (.slice (some ⟨w.heap.size, 0, none⟩) 2 2) [2, 3] := by
    rw [← hW]
    exact srcLitI44 w [2, 3] (by decide)
  rw [hW]
  clear hW
  refine (x_new (a := [[0, 0], [0, 0, 0]]) hS (by decide) (by decide)).mono ?_
  rintro e w1 ⟨M, p0, rfl, hm, hp, hB⟩
  have HM0 := Hd.mk hm
  have FB0 := Hd.mk (Held.below (hX.trans (hB.mono hX.size)) (fun k hk => hp k (Nat.lt_of_lt_of_le hk hX.size)))
  clear hm hp hB hX hS
  go_wp2_with fail
  refine (y_store HM0.out (r := 0) (e := 0) (st' := ⟨[[5, 0], [0, 0, 0]], []⟩) (by decide) (by decide) (by rfl)).mono ?_
  rintro e w1 ⟨rfl, hm, hs⟩
  have FB_2 := Hd.mk (FB0.out.step hs)
  have HM2 := Hd.mk hm
  clear FB0 HM0
  clear hs hm
  go_wp2_with fail
  refine (y_mark HM2.out (r := 1) (e := 0) (st' := ⟨[[5, 0], [0, 0, 0]], [[[5, 0], [0, 0, 0]]]⟩) (by decide) (by decide) (by rfl)).mono ?_
  rintro e w3 ⟨rfl, hm, hs⟩
  have FB_4 := Hd.mk (FB_2.out.step hs)
  have HM4 := Hd.mk hm
  clear FB_2 HM2
  clear hs hm
  go_wp2_with fail
  refine (y_store HM4.out (r := 5) (e := 0) (st' := ⟨[[7, 0], [0, 0, 0]], [[[5, 0], [0, 0, 0]]]⟩) (by decide) (by decide) (by rfl)).mono ?_
  rintro e w5 ⟨rfl, hm, hs⟩
  have FB_6 := Hd.mk (FB_4.out.step hs)
  have HM6 := Hd.mk hm
  clear FB_4 HM4
  clear hs hm
  go_wp2_with fail
  refine (y_store HM6.out (r := 0) (e := 0) (st' := ⟨[[7, 0], [0, 0, 9]], [[[5, 0], [0, 0, 0]]]⟩) (by decide) (by decide) (by rfl)).mono ?_
  rintro e w7 ⟨rfl, hm, hs⟩
  have FB_8 := Hd.mk (FB_6.out.step hs)
  have HM8 := Hd.mk hm
  clear FB_6 HM6
  clear hs hm
  go_wp2_with fail
  refine (x_changes HM8.out (l := [(1, 0, 5, 7), (2, 2, 0, 9)]) (by decide)).mono ?_
  rintro e w9 ⟨a9, c9, p9, rfl, hm, hf, hs⟩
  have FNc19 := Hd.mk hf
  clear hf
  have FB_10 := Hd.mk (FB_8.out.step hs)
  have HM10 := Hd.mk hm
  clear FB_8 HM8
  clear hs hm
  go_wp2_with fail
  refine (y_mark HM10.out (r := 2) (e := 0) (st' := ⟨[[7, 0], [0, 0, 9]], [[[5, 0], [0, 0, 0]], [[7, 0], [0, 0, 9]]]⟩) (by decide) (by decide) (by rfl)).mono ?_
  rintro e w11 ⟨rfl, hm, hs⟩
  have FB_12 := Hd.mk (FB_10.out.step hs)
  have Fc1_12 := Hd.mk (FNc19.out.step hs)
  have HM12 := Hd.mk hm
  clear FB_10 FNc19 HM10
  clear hs hm
  go_wp2_with fail
  refine (y_store HM12.out (r := 7) (e := 0) (st' := ⟨[[5, 0], [0, 0, 9]], [[[5, 0], [0, 0, 0]], [[7, 0], [0, 0, 9]]]⟩) (by decide) (by decide) (by rfl)).mono ?_
  rintro e w13 ⟨rfl, hm, hs⟩
  have FB_14 := Hd.mk (FB_12.out.step hs)
  have Fc1_14 := Hd.mk (Fc1_12.out.step hs)
  have HM14 := Hd.mk hm
  clear FB_12 Fc1_12 HM12
  clear hs hm
  go_wp2_with fail
  refine (x_changes HM14.out (l := [(1, 0, 7, 5)]) (by decide)).mono ?_
  rintro e w15 ⟨a15, c15, p15, rfl, hm, hf, hs⟩
  have FNc215 := Hd.mk hf
  clear hf
  have FB_16 := Hd.mk (FB_14.out.step hs)
  have Fc1_16 := Hd.mk (Fc1_14.out.step hs)
  have HM16 := Hd.mk hm
  clear FB_14 Fc1_14 HM14
  clear hs hm
  go_wp2_with fail
  refine (y_keep HM16.out (r := 1) (e := 0) (st' := ⟨[[5, 0], [0, 0, 9]], [[[5, 0], [0, 0, 0]]]⟩) (by decide) (by decide) (by rfl)).mono ?_
  rintro e w17 ⟨rfl, hm, hs⟩
  have FB_18 := Hd.mk (FB_16.out.step hs)
  have Fc1_18 := Hd.mk (Fc1_16.out.step hs)
  have Fc2_18 := Hd.mk (FNc215.out.step hs)
  have HM18 := Hd.mk hm
  clear FB_16 Fc1_16 FNc215 HM16
  clear hs hm
  go_wp2_with fail
  refine (x_changes HM18.out (l := [(2, 2, 0, 9)]) (by decide)).mono ?_
  rintro e w19 ⟨a19, c19, p19, rfl, hm, hf, hs⟩
  have FNc319 := Hd.mk hf
  clear hf
  have FB_20 := Hd.mk (FB_18.out.step hs)
  have Fc1_20 := Hd.mk (Fc1_18.out.step hs)
  have Fc2_20 := Hd.mk (Fc2_18.out.step hs)
  have HM20 := Hd.mk hm
  clear FB_18 Fc1_18 Fc2_18 HM18
  clear hs hm
  go_wp2_with fail
  refine (y_back HM20.out (r := 1) (e := 0) (st' := ⟨[[5, 0], [0, 0, 0]], []⟩) (by decide) (by decide) (by rfl)).mono ?_
  rintro e w21 ⟨rfl, hm, hs⟩
  have FB_22 := Hd.mk (FB_20.out.step hs)
  have Fc1_22 := Hd.mk (Fc1_20.out.step hs)
  have Fc2_22 := Hd.mk (Fc2_20.out.step hs)
  have Fc3_22 := Hd.mk (FNc319.out.step hs)
  have HM22 := Hd.mk hm
  clear FB_20 Fc1_20 Fc2_20 FNc319 HM20
  clear hs hm
  go_wp2_with fail
  refine (y_load HM22.out (r := 0) (e := 0) (by decide) (by decide)).mono ?_
  rintro e w23 ⟨rfl, rfl⟩
  go_wp2_with fail
  refine (y_load HM22.out (r := 5) (e := 0) (by decide) (by decide)).mono ?_
  rintro e w24 ⟨rfl, rfl⟩
  go_wp2_with fail
  refine (y_load HM22.out (r := 0) (e := 212) (by decide) (by decide)).mono ?_
  rintro e w25 ⟨rfl, rfl⟩
  go_wp2_with fail
  refine (y_load HM22.out (r := 0) (e := 211) (by decide) (by decide)).mono ?_
  rintro e w26 ⟨rfl, rfl⟩
  go_wp2_with fail
  refine (y_back HM22.out (r := 0) (e := 213) (st' := ⟨[[5, 0], [0, 0, 0]], []⟩) (by decide) (by decide) (by rfl)).mono ?_
  rintro e w27 ⟨rfl, hm, hs⟩
  have FB_28 := Hd.mk (FB_22.out.step hs)
  have Fc1_28 := Hd.mk (Fc1_22.out.step hs)
  have Fc2_28 := Hd.mk (Fc2_22.out.step hs)
  have Fc3_28 := Hd.mk (Fc3_22.out.step hs)
  have HM28 := Hd.mk hm
  clear FB_22 Fc1_22 Fc2_22 Fc3_22 HM22
  clear hs hm
  go_wp2_with fail
  obtain ⟨A29, hW⟩ : ∃ W, (w27.alloc (.cells #[.int .i64 1, .int .i64 0, .int .i64 5, .int .i64 7, .int .i64 2, .int .i64 2, .int .i64 0, .int .i64 9] 39)) = W := ⟨_, rfl⟩
  obtain ⟨p29, hm, hf, hs⟩ := lit_box HM28.out (.cells #[.int .i64 1, .int .i64 0, .int .i64 5, .int .i64 7, .int .i64 2, .int .i64 2, .int .i64 0, .int .i64 9] 39)
  rw [hW] at hm hf hs
  rw [hW]
  clear hW
  have FNlc129 := Hd.mk (hf.imp fun W hW => srcD_box hW [(1, 0, 5, 7), (2, 2, 0, 9)] rfl)
  clear hf
  have FB_30 := Hd.mk (FB_28.out.step hs)
  have Fc1_30 := Hd.mk (Fc1_28.out.step hs)
  have Fc2_30 := Hd.mk (Fc2_28.out.step hs)
  have Fc3_30 := Hd.mk (Fc3_28.out.step hs)
  have HM30 := Hd.mk hm
  clear FB_28 Fc1_28 Fc2_28 Fc3_28 HM28
  clear hs hm
  refine (equalD_at (l := [(1, 0, 5, 7), (2, 2, 0, 9)]) (m := [(1, 0, 5, 7), (2, 2, 0, 9)]) (b := true) (by decide) (OwnD.src Fc1_30.out.now) FNlc129.out.now).mono ?_
  rintro e w31 ⟨rfl, hB⟩
  obtain ⟨hm, hs⟩ := HM30.out.below hB
  clear hB
  have FB_32 := Hd.mk (FB_30.out.step hs)
  have Fc1_32 := Hd.mk (Fc1_30.out.step hs)
  have Fc2_32 := Hd.mk (Fc2_30.out.step hs)
  have Fc3_32 := Hd.mk (Fc3_30.out.step hs)
  have Flc1_32 := Hd.mk (FNlc129.out.step hs)
  have HM32 := Hd.mk hm
  clear FB_30 Fc1_30 Fc2_30 Fc3_30 FNlc129 HM30
  clear hs hm
  clear Flc1_32
  go_wp2_with fail
  obtain ⟨A33, hW⟩ : ∃ W, (w31.alloc (.cells #[.int .i64 1, .int .i64 0, .int .i64 7, .int .i64 5] 39)) = W := ⟨_, rfl⟩
  obtain ⟨p33, hm, hf, hs⟩ := lit_box HM32.out (.cells #[.int .i64 1, .int .i64 0, .int .i64 7, .int .i64 5] 39)
  rw [hW] at hm hf hs
  rw [hW]
  clear hW
  have FNlc233 := Hd.mk (hf.imp fun W hW => srcD_box hW [(1, 0, 7, 5)] rfl)
  clear hf
  have FB_34 := Hd.mk (FB_32.out.step hs)
  have Fc1_34 := Hd.mk (Fc1_32.out.step hs)
  have Fc2_34 := Hd.mk (Fc2_32.out.step hs)
  have Fc3_34 := Hd.mk (Fc3_32.out.step hs)
  have HM34 := Hd.mk hm
  clear FB_32 Fc1_32 Fc2_32 Fc3_32 HM32
  clear hs hm
  refine (equalD_at (l := [(1, 0, 7, 5)]) (m := [(1, 0, 7, 5)]) (b := true) (by decide) (OwnD.src Fc2_34.out.now) FNlc233.out.now).mono ?_
  rintro e w35 ⟨rfl, hB⟩
  obtain ⟨hm, hs⟩ := HM34.out.below hB
  clear hB
  have FB_36 := Hd.mk (FB_34.out.step hs)
  have Fc1_36 := Hd.mk (Fc1_34.out.step hs)
  have Fc2_36 := Hd.mk (Fc2_34.out.step hs)
  have Fc3_36 := Hd.mk (Fc3_34.out.step hs)
  have Flc2_36 := Hd.mk (FNlc233.out.step hs)
  have HM36 := Hd.mk hm
  clear FB_34 Fc1_34 Fc2_34 Fc3_34 FNlc233 HM34
  clear hs hm
  clear Flc2_36
  go_wp2_with fail
  obtain ⟨A37, hW⟩ : ∃ W, (w35.alloc (.cells #[.int .i64 2, .int .i64 2, .int .i64 0, .int .i64 9] 39)) = W := ⟨_, rfl⟩
  obtain ⟨p37, hm, hf, hs⟩ := lit_box HM36.out (.cells #[.int .i64 2, .int .i64 2, .int .i64 0, .int .i64 9] 39)
  rw [hW] at hm hf hs
  rw [hW]
  clear hW
  have FNlc337 := Hd.mk (hf.imp fun W hW => srcD_box hW [(2, 2, 0, 9)] rfl)
  clear hf
  have FB_38 := Hd.mk (FB_36.out.step hs)
  have Fc1_38 := Hd.mk (Fc1_36.out.step hs)
  have Fc2_38 := Hd.mk (Fc2_36.out.step hs)
  have Fc3_38 := Hd.mk (Fc3_36.out.step hs)
  have HM38 := Hd.mk hm
  clear FB_36 Fc1_36 Fc2_36 Fc3_36 HM36
  clear hs hm
  refine (equalD_at (l := [(2, 2, 0, 9)]) (m := [(2, 2, 0, 9)]) (b := true) (by decide) (OwnD.src Fc3_38.out.now) FNlc337.out.now).mono ?_
  rintro e w39 ⟨rfl, hB⟩
  obtain ⟨hm, hs⟩ := HM38.out.below hB
  clear hB
  have FB_40 := Hd.mk (FB_38.out.step hs)
  have Fc1_40 := Hd.mk (Fc1_38.out.step hs)
  have Fc2_40 := Hd.mk (Fc2_38.out.step hs)
  have Fc3_40 := Hd.mk (Fc3_38.out.step hs)
  have Flc3_40 := Hd.mk (FNlc337.out.step hs)
  have HM40 := Hd.mk hm
  clear FB_38 Fc1_38 Fc2_38 Fc3_38 FNlc337 HM38
  clear hs hm
  clear Flc3_40
  go_wp2_with fail
  go_ret
  exact ⟨rfl, FB_40.out.now⟩
end Go.Proofs.Ytnhkadknibinfaa
