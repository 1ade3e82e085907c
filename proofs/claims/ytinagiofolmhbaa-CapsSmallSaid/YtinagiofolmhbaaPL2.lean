/- The plain law of Made: what scripts make. -/
import Derived.Test.YtinagiofolmhbaaPL1
import Derived.Test.YtinagiofolmhbaaRowN
import Derived.Test.YtinagiofolmhbaaRowS
import Derived.Test.YtinagiofolmhbaaM8
namespace Go.Proofs.Ytinagiofolmhbaa
open Go.RowKit
set_option linter.unusedVariables false
set_option linter.unusedSimpArgs false

/-- Four bytes of a script. -/
structure Sm where
  a : BitVec 8
  b : BitVec 8
  c : BitVec 8
  d : BitVec 8
def sL : Lays Sm := ⟨4, fun x => [h8 x.a, h8 x.b, h8 x.c, h8 x.d], fun _ => rfl, by
  intro x u hu
  simp at hu
  rcases hu with rfl | rfl | rfl | rfl <;> rfl⟩
def iL : Lays (List Int) := ⟨4, fun z => [.int .u8 (z.getD 0 0), .int .u8 (z.getD 1 0), .int .u8 (z.getD 2 0), .int .u8 (z.getD 3 0)], fun _ => rfl, by
  intro x u hu
  simp at hu
  rcases hu with rfl | rfl | rfl | rfl <;> rfl⟩
theorem SrcN.conv {α β : Type} {L : Lays α} {K : Lays β} (f : α → β) (hz : L.sz = K.sz) {w : World} {v : Value} {xs : List α} (hc : ∀ x ∈ xs, K.cs (f x) = L.cs x) (h : SrcN L w v xs) : SrcN K w v (xs.map f) := by
  rcases h with ⟨rfl, h⟩ | ⟨b, off, c, hv, h1, h2, hb, hcell⟩
  · exact .inl ⟨rfl, h⟩
  · refine .inr ⟨b, off, c, by simpa using hv, by simpa using h1, h2, hb, fun j hj r u hr => ?_⟩
    have hj' : j < xs.length := by simpa using hj
    rw [← hz]
    refine hcell j hj' r u ?_
    rw [List.getElem_map, hc _ (List.getElem_mem _)] at hr
    exact hr
theorem wf_u8 {n : Int} (h : (Lit.int .u8 n).wf = true) : 0 ≤ n ∧ n < 256 := by
  simp [Lit.wf, IntKind.min, IntKind.max, IntKind.bits, IntKind.signed] at h
  omega
theorem small_src {w : World} {a : Option Addr} {len cap : Nat} (h : IsRowS [.u8, .u8, .u8, .u8] w a len cap) : ∃ ls : List Sm, ls.length = len ∧ SrcN sL w (.slice a len cap) ls := by
  obtain ⟨xs, hl, hs, hx⟩ := row_src iL [.u8, .u8, .u8, .u8] id rfl ⟨_, rfl⟩ (fun zs hz => by
    match zs, hz with
    | [a, b, c, d], _ => rfl) h
  refine ⟨xs.map (fun z => ⟨BitVec.ofInt 8 (z.getD 0 0), BitVec.ofInt 8 (z.getD 1 0), BitVec.ofInt 8 (z.getD 2 0), BitVec.ofInt 8 (z.getD 3 0)⟩), by simpa using hl, SrcN.conv (L := iL) (K := sL) _ rfl (fun x hxm => ?_) hs⟩
  obtain ⟨zs, hzx, hz, hw⟩ := hx x hxm
  simp only [id] at hzx
  rw [hzx]
  clear hzx
  match zs, hz, hw with
  | [p, q, r, s], _, hw =>
    have b0 := wf_u8 (hw 0 .u8 p rfl rfl)
    have b1 := wf_u8 (hw 1 .u8 q rfl rfl)
    have b2 := wf_u8 (hw 2 .u8 r rfl rfl)
    have b3 := wf_u8 (hw 3 .u8 s rfl rfl)
    show [h8 (BitVec.ofInt 8 p), h8 (BitVec.ofInt 8 q), h8 (BitVec.ofInt 8 r), h8 (BitVec.ofInt 8 s)] = [.int .u8 p, .int .u8 q, .int .u8 r, .int .u8 s]
    rw [← h8_int p b0.1 b0.2, ← h8_int q b1.1 b1.2, ← h8_int r b2.1 b2.2, ← h8_int s b3.1 b3.2]

/-! ### What is made -/
def pickL (l : List Hn) (b : BitVec 8) : Hn := l.getD (b.toNat % l.length) hn0
def stepS (st : St) (x : Sm) : St :=
  if (liveS st).length = 0 ∨ x.a % 8#8 = 0#8 then rootS st (n8 (x.b % 4#8)) (n8 (x.c % 5#8)) ((x.d % 16#8) ||| 4#8)
  else if x.a % 8#8 = 7#8 then revokeS st (pickL (liveS st) x.b).ser
  else derS st (pickL (liveS st) x.b).ser (n8 (x.c % 5#8)) (x.d &&& (pickL (liveS st) x.b).rts)
def makeK (ls : List Sm) (k : Nat) : St := (ls.take k).foldl stepS ⟨100, []⟩
def madeS (ls : List Sm) : St := makeK ls 60
theorem makeK_succ (ls : List Sm) (k : Nat) (hk : k < ls.length) : makeK ls (k + 1) = stepS (makeK ls k) ls[k] := by
  unfold makeK
  rw [List.take_succ_eq_append_getElem hk, List.foldl_append]; rfl
theorem makeK_all (ls : List Sm) (h : ls.length ≤ 60) : madeS ls = makeK ls ls.length := by
  unfold madeS makeK
  rw [List.take_of_length_le h, List.take_of_length_le (Nat.le_refl _)]
/-- After k acts. -/
structure Sh (k : Nat) (st : St) : Prop where
  ok : Ok st
  len : st.made.length ≤ k
  nx : st.next = 100 + st.made.length
theorem Sh.live {k : Nat} {st : St} (h : Sh k st) : (liveS st).length ≤ k := by
  unfold liveS
  rw [List.length_map]
  exact Nat.le_trans (List.length_filter_le _ _) h.len
theorem Sh.own {k : Nat} {st : St} (h : Sh k st) (who : Int) : (placesS st who).length ≤ k := by
  unfold placesS ownH
  rw [List.length_map]
  exact Nat.le_trans (List.length_filter_le _ _) h.len
theorem Sh.addE {k : Nat} {st : St} (h : Sh k st) (hk : k < 256) (who : Int) : addE st who = 0 := by
  unfold Go.Proofs.Ytinagiofolmhbaa.addE
  have h1 := h.live
  have h2 := h.own who
  have h3 := h.nx
  have h4 := h.len
  rw [if_neg (by omega), if_neg (by omega), if_neg (by omega)]
theorem n8_lt (x : BitVec 8) (m : Nat) (hm : 0 < m) (h256 : m < 256) : 0 ≤ n8 (x % BitVec.ofNat 8 m) ∧ n8 (x % BitVec.ofNat 8 m) < m := by
  unfold n8
  rw [BitVec.toNat_umod, BitVec.toNat_ofNat, Nat.mod_eq_of_lt (a := m) (by simpa using h256)]
  have := Nat.mod_lt x.toNat hm
  omega
theorem root_mask (x : BitVec 8) : badM ((x % 16#8) ||| 4#8) = false := by
  unfold badM
  have h1 : (x % 16#8).toNat < 2 ^ 4 := by
    rw [BitVec.toNat_umod]
    exact Nat.mod_lt _ (by decide)
  have h2 := Nat.or_lt_two_pow h1 (show (4#8).toNat < 2 ^ 4 by decide)
  simp only [decide_eq_false_iff_not, BitVec.toNat_or]
  omega
theorem root_made {k : Nat} {st : St} (h : Sh k st) (hk : k < 60) (x : Sm) : rootE st (n8 (x.b % 4#8)) (n8 (x.c % 5#8)) ((x.d % 16#8) ||| 4#8) = 0 := by
  have h1 := n8_lt x.b 4 (by decide) (by decide)
  have h2 := n8_lt x.c 5 (by decide) (by decide)
  have hw : rootW (n8 (x.b % 4#8)) (n8 (x.c % 5#8)) ((x.d % 16#8) ||| 4#8) = 0 := by
    unfold rootW
    rw [if_neg, if_neg (by rw [root_mask]; simp)]
    unfold badH
    simp only [decide_eq_true_eq]
    omega
  unfold rootE
  rw [if_pos hw]
  exact h.addE (by omega) _
theorem getE_live {st : St} (h : Ok st) {x : Hn} (hx : x ∈ liveS st) : getE st x.ser = 0 ∧ getV st x.ser = x := by
  have := getL_mem (live_inc h) hx
  unfold getE getV
  rw [this]
  exact ⟨rfl, rfl⟩
theorem and_le (d f : BitVec 8) : (d &&& f).toNat ≤ f.toNat := by
  rw [BitVec.toNat_and]
  exact Nat.and_le_right
theorem and_below (d f : BitVec 8) : (d &&& f) &&& ~~~f = 0#8 := by
  apply BitVec.eq_of_getLsbD_eq
  intro i hi
  simp only [BitVec.getLsbD_and, BitVec.getLsbD_not, BitVec.getLsbD_zero]
  cases d.getLsbD i <;> cases f.getLsbD i <;> simp
theorem hand_made {f : BitVec 8} (hf : f.toNat ≤ 15) (d : BitVec 8) : handE f (d &&& f) = if f &&& 4#8 = 0#8 then 221 else 0 := by
  have h1 : badM f = false := by unfold badM; simp; omega
  have h2 : badM (d &&& f) = false := by unfold badM; have := and_le d f; simp only [decide_eq_false_iff_not]; omega
  unfold handE
  rw [h1, h2, if_neg (by simp)]
  by_cases h : f &&& 4#8 = 0#8
  · rw [if_pos (.inl h), if_pos h]
  · rw [if_neg, if_neg h]
    rintro (h3 | h3)
    · exact h h3
    · exact h3 (and_below d f)
theorem der_made {k : Nat} {st : St} (h : Sh k st) (hk : k < 60) {x : Hn} (hx : x ∈ liveS st) (c d : BitVec 8) :
    derE st x.ser (n8 (c % 5#8)) (d &&& x.rts) = (if x.rts &&& 4#8 = 0#8 then 221 else 0) ∧ (x.rts &&& 4#8 = 0#8 → derN st x.ser (n8 (c % 5#8)) (d &&& x.rts) = 0) := by
  obtain ⟨h1, h2⟩ := getE_live h.ok hx
  have h3 := n8_lt c 5 (by decide) (by decide)
  have hb : badH (n8 (c % 5#8)) = false := by unfold badH; simp only [decide_eq_false_iff_not]; omega
  have hw : derW st x.ser (n8 (c % 5#8)) (d &&& x.rts) = if x.rts &&& 4#8 = 0#8 then 221 else 0 := by
    unfold derW
    rw [if_pos h1, hb, h2, hand_made (h.ok.rtss _ (live_mem.1 hx))]
    simp
  unfold derE derN
  rw [hw]
  by_cases hg : x.rts &&& 4#8 = 0#8
  · simp [hg]
  · simp only [hg, if_false, if_true, false_implies, and_true]
    exact h.addE (by omega) _
theorem pick_live {l : List Hn} (h : ¬ l.length = 0) (b : BitVec 8) : ∃ hj : b.toNat % l.length < l.length, pickL l b = l[b.toNat % l.length] := by
  have hj : b.toNat % l.length < l.length := Nat.mod_lt _ (by omega)
  refine ⟨hj, ?_⟩
  unfold pickL
  simp [List.getD, List.getElem?_eq_getElem hj]
theorem add_len (st : St) (h : Hn) : (addS st h).made.length = st.made.length + (if Go.Proofs.Ytinagiofolmhbaa.addE st h.hol = 0 then 1 else 0) ∧ (addS st h).next = st.next + (if Go.Proofs.Ytinagiofolmhbaa.addE st h.hol = 0 then 1 else 0) := by
  unfold addS
  split <;> simp
theorem Sh.add {k : Nat} {st : St} (h : Sh k st) {x : Hn} (ho : Ok (addS st x)) : Sh (k + 1) (addS st x) := by
  obtain ⟨h1, h2⟩ := add_len st x
  have h3 := h.len
  have h4 := h.nx
  refine ⟨ho, ?_, ?_⟩
  · rw [h1]; split <;> omega
  · rw [h1, h2]; split <;> simp <;> omega
theorem Sh.up {k : Nat} {st : St} (h : Sh k st) : Sh (k + 1) st := ⟨h.ok, by have := h.len; omega, h.nx⟩
theorem Sh.take {k : Nat} {st : St} (h : Sh k st) (p : List Int) : Sh k (takeS st p) := ⟨h.ok.take p, by simpa [takeS] using h.len, by simpa [takeS] using h.nx⟩
theorem Sh.root {k : Nat} {st : St} (h : Sh k st) (p t : Int) (r : BitVec 8) : Sh (k + 1) (rootS st p t r) := by
  have ho := h.ok.root p t r
  unfold rootS at ho ⊢
  split
  · rename_i hc; rw [if_pos hc] at ho; exact h.add ho
  · exact h.up
theorem Sh.der {k : Nat} {st : St} (h : Sh k st) (s t : Int) (r : BitVec 8) : Sh (k + 1) (derS st s t r) := by
  have ho := h.ok.der s t r
  unfold derS at ho ⊢
  split
  · rename_i hc; rw [if_pos hc] at ho; exact h.add ho
  · exact h.up
theorem Sh.step {k : Nat} {st : St} (h : Sh k st) (x : Sm) : Sh (k + 1) (stepS st x) := by
  unfold stepS
  split
  · exact h.root _ _ _
  · split
    · exact (h.take _).up
    · exact h.der _ _ _
theorem Sh.zero : Sh 0 ⟨100, []⟩ := ⟨⟨by decide, by decide, by simp, by simp, by simp, by simp, by simp, by simp, by decide, fun who => by simp [placesS, ownH]⟩, by simp, by simp⟩
theorem makeK_sh (ls : List Sm) : ∀ k, k ≤ ls.length → Sh k (makeK ls k)
  | 0, _ => Sh.zero
  | k + 1, h => by
    rw [makeK_succ ls k (by omega)]
    exact (makeK_sh ls k (by omega)).step _
theorem made_sh (ls : List Sm) : Sh 60 (madeS ls) := by
  by_cases h : ls.length ≤ 60
  · have := makeK_sh ls ls.length (Nat.le_refl _)
    rw [makeK_all ls h]
    exact ⟨this.ok, Nat.le_trans this.len h, this.nx⟩
  · exact makeK_sh ls 60 (by omega)
end Go.Proofs.Ytinagiofolmhbaa
