/- The law QuotaTells: its walk. -/
import Derived.Test.YtppfhcocmpmadaaT
import Derived.Test.YtppfhcocmpmadaaB8
import Derived.Test.YtppfhcocmpmadaaStructs
namespace Go.Proofs.Ytppfhcocmpmadaa
open Go.RowKit
set_option linter.unusedVariables false

def cellInt (w : World) (a : Addr) : Int := match w.cell? a with
  | some (.int _ n) => n
  | _ => 0
theorem src_of_rowS {w : World} {a : Option Addr} {len cap : Nat} (h : IsRowS [.i64, .i64] w a len cap) : ∃ cs : List (Int × Int), cs.length = len ∧ SrcC w (.slice a len cap) cs := by
  by_cases h0 : len = 0
  · subst h0
    refine ⟨[], rfl, .inl ⟨rfl, a, cap, rfl, fun ha => ?_⟩⟩
    rcases h with ⟨_, _, h⟩ | ⟨x, hx, _⟩
    · exact h
    · rw [ha] at hx; cases hx
  · rcases h with ⟨_, h, _⟩ | ⟨x, rfl, hlc, hm, hc⟩
    · exact absurd h h0
    · obtain ⟨b, off, rfl, hbw, hcells⟩ := IsRowS.plain (len := len) (cap := cap) (.inr ⟨x, rfl, hlc, hm, hc⟩) (by omega) ⟨_, rfl⟩
      refine ⟨(List.range len).map fun i => (cellInt w ⟨b, off + i * 2, none⟩, cellInt w ⟨b, off + i * 2 + 1, none⟩), by simp, .inr ⟨b, off, cap, by simp, by simp; exact hlc, hm, hbw, fun j hj => ?_⟩⟩
      have hj' : j < len := by simpa using hj
      obtain ⟨n, hn, -⟩ := hcells j (by omega) 0 .i64 rfl
      obtain ⟨m, hm', -⟩ := hcells j (by omega) 1 .i64 rfl
      have hn2 : w.cell? ⟨b, off + j * 2, none⟩ = some (.int .i64 n) := hn
      have hm2 : w.cell? ⟨b, off + j * 2 + 1, none⟩ = some (.int .i64 m) := hm'
      simp [cellInt, hn2, hm2]

set_option maxRecDepth 100000 in
set_option maxHeartbeats 1000000 in
theorem qtells (haw : AwakeC) (L U : Nat → Int) (v : Value) (cs : List (Int × Int)) (k n : Int) (w : World) (hs : SrcC w v cs) :
    Calls Try.prog 9 #[.agg (bk L U), v, .int .i64 k, .int .i64 n] w fun e w' => e = .returned (.bool true) ∧ Below w.heap.size w w' := by
  have HS := Hd.mk hs
  have HA := Hd.mk haw
  have HB0 : Hd (Below w.heap.size w (w.alloc (.cells (bk L U) 27))) := ⟨(Below.refl _ _).alloc (Nat.le_refl _) _⟩
  clear hs haw
  go_enter Try.func9, Try.ntmps9
  go_wp2_with (refine wpList_load_row rfl 27 _ rfl _ rfl 27 (bk L U) (0, 0) _ (World.alloc_heap_new w _) Try.underlying27 rfl (by kernel_rfl) ?_)
  refine (tells_any L U v cs k n _ (HS.out.below HB0.out)).mono ?_
  rintro e w1 ⟨rfl, hB⟩
  have HB1 := Hd.mk (ch4 HB0.out hB)
  clear hB HB0
  go_wp2_with fail
  refine (HA.out _).mono ?_
  rintro e w2 ⟨rfl, hB⟩
  have HB2 := Hd.mk (ch4 HB1.out hB)
  clear hB
  go_wp2_with fail
  go_ret
  exact ⟨rfl, HB2.out⟩
end Go.Proofs.Ytppfhcocmpmadaa
