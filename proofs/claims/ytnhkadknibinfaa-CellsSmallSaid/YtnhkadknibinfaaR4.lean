/- The reference's Load and Right; lists lent. -/
import Derived.Test.YtnhkadknibinfaaR3
namespace Go.Proofs.Ytnhkadknibinfaa
open Go.RowKit
set_option linter.unusedVariables false
set_option linter.unusedSimpArgs false

theorem PList.lenle {α : Type} {R : Value → α → Prop} {pr : Nat → Prop} {W : World} {a : Option Addr} {n c : Nat} {xs : List α} (h : PList R pr W (.slice a n c) xs) : n = xs.length := by
  obtain ⟨a', c', h, _⟩ := h.shape
  simp only [Value.slice.injEq] at h
  exact h.2.1

set_option maxRecDepth 100000 in
theorem rload_any {pr : Nat → Prop} {w : World} {v1 v2 : Value} {st : St} (h : RefAt pr w v1 v2 st) (h16 : st.now.length ≤ 16) (hc : ∀ l ∈ st.now, l.length ≤ 1024) (o i : Int) :
    Calls Try.prog 41 #[.agg #[v1, v2], .int .i64 o, .int .i64 i] w fun e w' => e = .returned (.tuple #[.int .i64 (ldV st.now o i), .int .i64 (ldE st.now o i)]) ∧ Below w.heap.size w w' := by
  have hB := (Below.refl w.heap.size w).alloc (Nat.le_refl _) (.cells #[v1, v2] 86)
  have hb := heap_alloc_new w (.cells #[v1, v2] 86)
  have hn := h.now.below hB
  obtain ⟨a1, c1, rfl, e1, e2⟩ := h.now.shape
  have b0 := cells_cell hb 0
  simp only [List.getElem?_toArray, List.getElem?_cons_zero] at b0
  obtain ⟨N, hN⟩ : ∃ n, st.now.length = n := ⟨_, rfl⟩
  rw [hN] at b0 h16 hB ⊢
  have HB := Hd.mk hB
  clear hb hB
  by_cases ho : o < 1 ∨ (N : Int) < o
  · have hE : ldE st.now o i = 211 := by unfold ldE; rw [if_pos (by rw [hN]; exact ho)]
    have hV := ld_bad (a := st.now) (o := o) (i := i) (by rw [hE]; decide)
    rw [hE, hV]
    clear hE hV hn h hN e1
    by_cases h1 : o < 1
    · clear ho
      go_enter Try.func41, Try.ntmps41
      go_wp2_with fail
      refine bodyPost_ret (results_tmp2 Try.results41 _ _ _) rfl ?_
      exact ⟨rfl, HB.out⟩
    · have h2 : (N : Int) < o := by omega
      clear ho
      go_enter Try.func41, Try.ntmps41
      go_wp2_with fail
      refine bodyPost_ret (results_tmp2 Try.results41 _ _ _) rfl ?_
      exact ⟨rfl, HB.out⟩
  · obtain ⟨r, rfl⟩ : ∃ r : Nat, o = (r : Int) + 1 := ⟨o.toNat - 1, by omega⟩
    have hr : r < st.now.length := by omega
    rw [hN] at hn
    obtain ⟨bb, off, vk, rfl, _, hbb, cb, hel⟩ := hn.at r hr
    obtain ⟨re, ce, rfl, f1, f2⟩ := hel.shape
    have hl1 := hc _ (List.getElem_mem hr)
    obtain ⟨n, hln⟩ : ∃ n, st.now[r].length = n := ⟨_, rfl⟩
    have HELX := Hd.mk hel
    rw [hln] at cb f1 hl1
    have wq : IntKind.i64.wrap ((r : Int) + 1 - 1) = (r : Int) := by rw [show (r : Int) + 1 - 1 = (r : Int) by omega]; exact IntWalk.i64_in _ ⟨by omega, by omega⟩
    have wq2 : IntKind.i64.wrap (r : Int) = (r : Int) := IntWalk.i64_in _ ⟨by omega, by omega⟩
    have t1 : ¬ (r : Int) + 1 < 1 := by omega
    have t2 : ¬ (N : Int) < (r : Int) + 1 := by omega
    have t3 : (0 : Int) ≤ (r : Int) := by omega
    have t4 : (r : Int) < (N : Int) := by omega
    by_cases hi : i < 0 ∨ (n : Int) ≤ i
    · have hE : ldE st.now ((r : Int) + 1) i = 212 := by
        unfold ldE
        rw [if_neg (by omega)]
        have : at2 st.now ((r : Int) + 1, i) = none := by
          unfold at2
          by_cases h0 : i < 0
          · rw [if_pos (.inr h0)]
          · rw [if_neg (by simp; omega)]
            have e3 : ((r : Int) + 1).toNat - 1 = r := by omega
            simp only [e3, List.getElem?_eq_getElem hr, Option.bind_some]
            exact List.getElem?_eq_none (by omega)
        rw [this]; rfl
      have hV := ld_bad (a := st.now) (o := (r : Int) + 1) (i := i) (by rw [hE]; decide)
      rw [hE, hV]
      clear hE hV hn h hN e1 hel hr hln hc ho HELX
      by_cases h0 : i < 0
      · clear hi
        go_enter Try.func41, Try.ntmps41
        go_wp2_with fail
        refine bodyPost_ret (results_tmp2 Try.results41 _ _ _) rfl ?_
        exact ⟨rfl, HB.out⟩
      · have h2 : (n : Int) ≤ i := by omega
        clear hi
        go_enter Try.func41, Try.ntmps41
        go_wp2_with fail
        refine bodyPost_ret (results_tmp2 Try.results41 _ _ _) rfl ?_
        exact ⟨rfl, HB.out⟩
    · obtain ⟨k, rfl⟩ : ∃ k : Nat, i = (k : Int) := ⟨i.toNat, by omega⟩
      have hk : k < st.now[r].length := by omega
      have hE : ldE st.now ((r : Int) + 1) (k : Int) = 0 := by unfold ldE; rw [if_neg (by omega), at2_get hr hk]; rfl
      have hV : ldV st.now ((r : Int) + 1) (k : Int) = st.now[r][k] := by unfold ldV; rw [at2_get hr hk]; rfl
      rw [hE, hV]
      obtain ⟨g, og, vg, rfl, _, hg, cg, hvg⟩ := PList.at HELX.out k hk
      rw [hvg] at cg
      obtain ⟨x, hx⟩ : ∃ x, st.now[r][k] = x := ⟨_, rfl⟩
      rw [hx] at cg ⊢
      simp only [iv] at cg
      have k0 : (0 : Int) ≤ (k : Int) := by omega
      have k1 : (k : Int) < (n : Int) := by omega
      have k2 : ¬ (k : Int) < 0 := by omega
      clear hE hV hn h hN e1 hel hr hln hc ho HELX hi hvg hx hk
      go_enter Try.func41, Try.ntmps41
      go_wp2_with fail
      refine bodyPost_ret (results_tmp2 Try.results41 _ _ _) rfl ?_
      exact ⟨rfl, HB.out⟩

/-! ### Right -/
theorem rightL_iff : ∀ (p : List Int) (x : Int), 0 ≤ x → (rightL x p = true ↔ (∀ n ∈ p, 0 ≤ n) ∧ p.sum ≤ x)
  | [], x, hx => by simp [rightL, hx]
  | n :: p, x, hx => by
    unfold rightL
    by_cases h : n < 0 ∨ x < n
    · rw [if_pos h]
      simp only [Bool.false_eq_true, List.mem_cons, forall_eq_or_imp, List.sum_cons, false_iff]
      rintro ⟨⟨h1, h2⟩, h3⟩
      have : 0 ≤ p.sum := by
        clear h3
        induction p with
        | nil => simp
        | cons a p ih =>
          rw [List.sum_cons]
          have := ih (fun n hn => h2 n (List.mem_cons_of_mem _ hn))
          have := h2 a (List.mem_cons_self ..)
          omega
      omega
    · rw [if_neg h, rightL_iff p (x - n) (by omega)]
      simp only [List.mem_cons, forall_eq_or_imp, List.sum_cons]
      constructor
      · rintro ⟨h1, h2⟩; exact ⟨⟨by omega, h1⟩, by omega⟩
      · rintro ⟨⟨_, h1⟩, h2⟩; exact ⟨h1, by omega⟩
theorem rightV_iff (p : List Int) : rightV p = true ↔ (∀ n ∈ p, 0 ≤ n) ∧ p.sum ≤ 1024 ∧ p.length ≤ 16 := by
  unfold rightV
  rw [Bool.and_eq_true, rightL_iff p 1024 (by omega), decide_eq_true_eq, and_assoc]
theorem sum_take_le {p : List Int} (h : ∀ n ∈ p, 0 ≤ n) (k : Nat) : (p.take k).sum ≤ p.sum ∧ 0 ≤ (p.take k).sum := by
  have key : ∀ q : List Int, (∀ n ∈ q, 0 ≤ n) → 0 ≤ q.sum := by
    intro q
    induction q with
    | nil => simp
    | cons a q ih =>
      intro h
      rw [List.sum_cons]
      have := ih (fun n hn => h n (List.mem_cons_of_mem _ hn))
      have := h a (List.mem_cons_self ..)
      omega
  have h1 := key (p.take k) (fun n hn => h n (List.mem_of_mem_take hn))
  have h2 := key (p.drop k) (fun n hn => h n (List.mem_of_mem_drop hn))
  have h3 : p.sum = (p.take k).sum + (p.drop k).sum := by rw [← List.sum_append, List.take_append_drop]
  omega

set_option maxRecDepth 100000 in
theorem rright_any (v : Value) (p : List Int) (w : World) (h : SrcI w v p) : Calls Try.prog 29 #[v] w fun e w' => e = .returned (.bool (rightV p)) ∧ w = w' := by
  have hb := h.small
  obtain ⟨a, c, rfl⟩ := h.shape
  have H := Hd.mk h
  obtain ⟨n, hn⟩ : ∃ n, p.length = n := ⟨_, rfl⟩
  have HN := Hd.mk hn
  rw [hn] at hb ⊢
  clear h hn
  go_enter Try.func29, Try.ntmps29
  go_wp2_with fail
  go_loopw [3, 4] (fun s i W => ∃ k : Nat, k ≤ n ∧ k ≤ 16 ∧ i = .int .i64 k ∧ s = .int .i64 (p.take k).sum ∧ Hd (∀ x ∈ p.take k, 0 ≤ x ∧ x ≤ 1024) ∧ w = W) (fun _ i _ => n - (intOf i).toNat)
  case atStart => exact ⟨0, by omega, by omega, rfl, by simp, ⟨by simp⟩, rfl⟩
  case round =>
    obtain ⟨k, hk, hk16, rfl, rfl, HA, rfl⟩ := hrel
    have HK := Hd.mk (And.intro hk hk16)
    by_cases hlt : k < n
    · have hkp : k < p.length := by rw [HN.out]; exact hlt
      have hs := H.out
      rw [HN.out] at hs
      obtain ⟨b, off, rfl, hb2, hc⟩ := hs.at k hkp
      have hts : (p.take (k + 1)).sum = (p.take k).sum + p[k] := by rw [List.take_succ_eq_append_getElem hkp, List.sum_append]; simp
      have hta : p.take (k + 1) = p.take k ++ [p[k]] := List.take_succ_eq_append_getElem hkp
      have hsb : ∀ q : List Int, (∀ x ∈ q, 0 ≤ x ∧ x ≤ 1024) → 0 ≤ q.sum ∧ q.sum ≤ 1024 * q.length := by
        intro q
        induction q with
        | nil => simp
        | cons a q ih =>
          intro h
          have h1 := ih (fun x hx => h x (List.mem_cons_of_mem _ hx))
          have h2 := h a (List.mem_cons_self ..)
          rw [List.sum_cons, List.length_cons]; omega
      have hsum := hsb _ HA.out
      have hbad : ¬ (0 ≤ p[k] ∧ p[k] ≤ 1024 ∧ k ≤ 15) → rightV p = false := by
        intro hn
        cases hr : rightV p with
        | false => rfl
        | true =>
          exfalso
          obtain ⟨h1, h2, h3⟩ := (rightV_iff p).1 hr
          have h4 := h1 _ (List.getElem_mem hkp)
          have h5 := (sum_take_le h1 (k + 1)).1
          have h6 := (sum_take_le h1 k).2
          rw [hts] at h5
          exact hn ⟨h4, by omega, by omega⟩
      obtain ⟨x, hx⟩ : ∃ x, p[k] = x := ⟨_, rfl⟩
      obtain ⟨s, hs'⟩ : ∃ s, (p.take k).sum = s := ⟨_, rfl⟩
      rw [hx] at hc hts hta hbad
      rw [hs'] at hts hsum ⊢
      have hlen : (p.take k).length ≤ 16 := by simp; omega
      have s0 : 0 ≤ s := hsum.1
      have s1 : s ≤ 16384 := by have := hsum.2; omega
      have HTA := Hd.mk hta
      have HTS := Hd.mk hts
      have HBAD := Hd.mk hbad
      have k0 : (0 : Int) ≤ (k : Int) := by omega
      have kn : (k : Int) < (n : Int) := by omega
      have HLT := Hd.mk hlt
      clear hs hkp hts hta hsb hsum hbad hx hs' hlen hlt hk
      by_cases g1 : x < 0
      · have hv := HBAD.out (by omega)
        have HV := Hd.mk hv
        clear hv HBAD
        go_wp2_with fail
        go_ret
        exact ⟨by rw [HV.out]; rfl, rfl⟩
      · by_cases g2 : 1024 < x
        · have hv := HBAD.out (by omega)
          have HV := Hd.mk hv
          clear hv HBAD
          go_wp2_with fail
          go_ret
          exact ⟨by rw [HV.out]; rfl, rfl⟩
        · by_cases g3 : 15 < k
          · have hv := HBAD.out (by omega)
            have HV := Hd.mk hv
            have g4 : (15 : Int) < (k : Int) := by omega
            clear hv HBAD
            go_wp2_with fail
            go_ret
            exact ⟨by rw [HV.out]; rfl, rfl⟩
          · have g4 : ¬ (15 : Int) < (k : Int) := by omega
            have HG3 : Hd (k + 1 ≤ 16) := ⟨by omega⟩
            have HAN : Hd (∀ y ∈ p.take (k + 1), 0 ≤ y ∧ y ≤ 1024) := ⟨by
              rw [HTA.out]
              intro y hy
              rcases List.mem_append.1 hy with hy | hy
              · exact HA.out y hy
              · simp at hy; subst hy; omega⟩
            have wq : IntKind.i64.wrap (s + x) = s + x := IntWalk.i64_in _ ⟨by omega, by omega⟩
            have wq2 : IntKind.i64.wrap ((k : Int) + 1) = (k : Int) + 1 := IntWalk.i64_in _ ⟨by omega, by omega⟩
            clear HBAD HA HTA hk16 g3
            go_wp2_with fail
            go_roundw
            case rel => exact ⟨k + 1, by have := HLT.out; omega, HG3.out, by go_num, by rw [HTS.out], HAN, trivial⟩
            case measure => have := HLT.out; simp [intOf]; omega
    · obtain rfl : k = n := by omega
      have hz : p.take k = p := List.take_of_length_le (by rw [HN.out]; exact Nat.le_refl _)
      rw [hz] at HA ⊢
      have hv : rightV p = decide (p.sum ≤ 1024) := by
        rw [Bool.eq_iff_iff, rightV_iff, decide_eq_true_eq]
        constructor
        · rintro ⟨_, h, _⟩; exact h
        · intro h; exact ⟨fun n hn => (HA.out n hn).1, h, by rw [HN.out]; exact hk16⟩
      have HV := Hd.mk hv
      clear hz hv hlt
      go_wp2_with fail
      go_ret
      exact ⟨by rw [HV.out]; rfl, rfl⟩

/-! ### Lists lent -/
theorem copyInts_any (v : Value) (p : List Int) (w : World) (h : SrcI w v p) (hl : p.length ≤ 1000000) : Calls Try.prog 36 #[v] w fun e w' => ∃ v', e = .returned v' ∧ AppI 3 w' w.heap.size v' p ∧ Below w.heap.size w w' := by
  obtain ⟨v5, w5, hr5, ho5, hg5⟩ := append_i44 (w := w) (base := w.heap.size) (xs := []) (ys := p) (OwnE.nil _ _ _ _) (Nat.le_refl _) h (by simp; omega)
  rw [List.nil_append] at ho5
  have hB5 : Below w.heap.size w w5 := OwnE.grown (OwnE.nil (fun n : Int => Value.int .i64 n) w w.heap.size 3) (Below.refl _ _) (Nat.le_refl _) hg5
  have HO := Hd.mk ho5
  have HB := Hd.mk hB5
  clear h ho5 hg5 hB5
  go_enter Try.func36, Try.ntmps36
  go_wp2_with (at_builtin; refine wpList_append_run rfl _ _ _ rfl rfl rfl hr5 ?_; clear hr5)
  go_ret
  exact ⟨v5, rfl, HO.out, HB.out⟩
theorem lmark_any (a b : Int) (w : World) (h0 : 0 ≤ a ∧ a ≤ 100) (h1 : 0 ≤ b ∧ b ≤ 100000000) : Calls Try.prog 46 #[.int .i64 a, .int .i64 b] w fun e w' => (∃ x, e = .returned (.int .i64 x)) ∧ w = w' := by
  go_enter Try.func46, Try.ntmps46
  go_wp2_with fail
  go_ret
  exact ⟨⟨_, rfl⟩, rfl⟩
end Go.Proofs.Ytnhkadknibinfaa
