/- Walk of the law WordShifts. -/
import Derived.Test.YtbmommomhepfpaaW8
import Derived.Test.YtbmommomhepfpaaP3
namespace Go.Proofs.Ytbmommomhepfpaa
open Go.RowKit
set_option linter.unusedVariables false

structure ShF (a b n P Q up down low back D R : BitVec 64) : Prop where
  hn : b &&& 63#64 = n
  hP : 1#64 <<< (n &&& 63#64).toNat = P
  hup : a <<< (b &&& 63#64).toNat = up
  hdown : a.sshiftRight (b &&& 63#64).toNat = down
  hlow : a >>> (b &&& 63#64).toNat = low
  hm : a * P = up
  hupn : a <<< (n &&& 63#64).toNat = up
  hdownn : a.sshiftRight (n &&& 63#64).toNat = down
  hlown : a >>> (n &&& 63#64).toNat = low
  hback : up.sshiftRight (b &&& 63#64).toNat = back
  hD : down <<< (b &&& 63#64).toNat = D
  hR : a - D = R
  hQ : 1#64 <<< ((64#64 - n) &&& 63#64).toNat = Q

set_option maxRecDepth 100000 in
set_option maxHeartbeats 4000000 in
theorem sh_zp (a b n P Q up down low back D R : BitVec 64) (X : Bool) (F : ShF a b n P Q up down low back D R)
    (hX : exactV 10 a b = X) (hbX : (back == a) = X) (ds : down.slt 0#64 = false) (as0 : a.slt 0#64 = false) (ale : (0#64).sle a = true) (hn0 : (n == 0#64) = true) (hn1 : (0#64).slt n = false) (hR0 : (R != 0#64) = false) (hl : low = down) (w : World) :
    Calls Try.prog 6 #[s a, s b] w fun e w' => e = .returned (.bool true) ∧ Below w.heap.size w w' := by
  have hnn := F.hn
  have HL := Hd.mk hl
  clear hl
  go_enter Try.func6, Try.ntmps6
  go_wp2_with fail
  refine (do_10 1#64 _ _).mono ?_
  rintro e w1 ⟨rfl, hB⟩
  rw [F.hP]
  go_wp2_with fail
  refine (do_10 a b _).mono ?_
  rintro e w102 ⟨rfl, hB102⟩
  rw [F.hup]
  have hB' := hB.trans (hB102.mono hB.size)
  clear hB hB102
  have hB := hB'
  clear hB'
  go_wp2_with fail
  refine (do_12 a b _).mono ?_
  rintro e w103 ⟨rfl, hB103⟩
  rw [F.hdown]
  have hB' := hB.trans (hB103.mono hB.size)
  clear hB hB103
  have hB := hB'
  clear hB'
  go_wp2_with fail
  refine (do_11 a b _).mono ?_
  rintro e w104 ⟨rfl, hB104⟩
  rw [F.hlow]
  have hB' := hB.trans (hB104.mono hB.size)
  clear hB hB104
  have hB := hB'
  clear hB'
  go_wp2_with fail
  refine (do_3 a P _).mono ?_
  rintro e w105 ⟨rfl, hB105⟩
  rw [F.hm]
  have hB' := hB.trans (hB105.mono hB.size)
  clear hB hB105
  have hB := hB'
  clear hB'
  go_wp2_with fail
  refine (do_10 a _ _).mono ?_
  rintro e w106 ⟨rfl, hB106⟩
  rw [F.hupn]
  have hB' := hB.trans (hB106.mono hB.size)
  clear hB hB106
  have hB := hB'
  clear hB'
  go_wp2_with fail
  refine (do_12 a _ _).mono ?_
  rintro e w107 ⟨rfl, hB107⟩
  rw [F.hdownn]
  have hB' := hB.trans (hB107.mono hB.size)
  clear hB hB107
  have hB := hB'
  clear hB'
  go_wp2_with fail
  refine (do_11 a _ _).mono ?_
  rintro e w108 ⟨rfl, hB108⟩
  rw [F.hlown]
  have hB' := hB.trans (hB108.mono hB.size)
  clear hB hB108
  have hB := hB'
  clear hB'
  go_wp2_with fail
  refine (exact_any 10 (by decide) (by decide) a b _).mono ?_
  rintro e w109 ⟨rfl, hB109⟩
  rw [hX, appE_10]
  have hB' := hB.trans (hB109.mono hB.size)
  clear hB hB109
  have hB := hB'
  clear hB'
  go_wp2_with fail
  refine (do_12 up b _).mono ?_
  rintro e w110 ⟨rfl, hB110⟩
  rw [F.hback]
  have hB' := hB.trans (hB110.mono hB.size)
  clear hB hB110
  have hB := hB'
  clear hB'
  go_wp2_with fail
  refine (do_10 down b _).mono ?_
  rintro e w111 ⟨rfl, hB111⟩
  rw [F.hD]
  have hB' := hB.trans (hB111.mono hB.size)
  clear hB hB111
  have hB := hB'
  clear hB'
  go_wp2_with fail
  refine (do_2 a _ _).mono ?_
  rintro e w112 ⟨rfl, hB112⟩
  rw [F.hR]
  have hB' := hB.trans (hB112.mono hB.size)
  clear hB hB112
  have hB := hB'
  clear hB'
  try rw [HL.out]
  go_wp2_with fail
  refine (awake_any _).mono ?_
  rintro e w113 ⟨rfl, hB113⟩
  have hB' := hB.trans (hB113.mono hB.size)
  clear hB hB113
  have hB := hB'
  clear hB'
  go_wp2_with fail
  go_ret
  exact ⟨rfl, hB⟩

set_option maxRecDepth 100000 in
set_option maxHeartbeats 4000000 in
theorem sh_zn (a b n P Q up down low back D R : BitVec 64) (X : Bool) (F : ShF a b n P Q up down low back D R)
    (hX : exactV 10 a b = X) (hbX : (back == a) = X) (ds : down.slt 0#64 = true) (as0 : a.slt 0#64 = true) (ale : (0#64).sle a = false) (hn0 : (n == 0#64) = true) (hn1 : (0#64).slt n = false) (hR0 : (R != 0#64) = false) (hl : low = a) (w : World) :
    Calls Try.prog 6 #[s a, s b] w fun e w' => e = .returned (.bool true) ∧ Below w.heap.size w w' := by
  have hnn := F.hn
  have HL := Hd.mk hl
  clear hl
  go_enter Try.func6, Try.ntmps6
  go_wp2_with fail
  refine (do_10 1#64 _ _).mono ?_
  rintro e w1 ⟨rfl, hB⟩
  rw [F.hP]
  go_wp2_with fail
  refine (do_10 a b _).mono ?_
  rintro e w102 ⟨rfl, hB102⟩
  rw [F.hup]
  have hB' := hB.trans (hB102.mono hB.size)
  clear hB hB102
  have hB := hB'
  clear hB'
  go_wp2_with fail
  refine (do_12 a b _).mono ?_
  rintro e w103 ⟨rfl, hB103⟩
  rw [F.hdown]
  have hB' := hB.trans (hB103.mono hB.size)
  clear hB hB103
  have hB := hB'
  clear hB'
  go_wp2_with fail
  refine (do_11 a b _).mono ?_
  rintro e w104 ⟨rfl, hB104⟩
  rw [F.hlow]
  have hB' := hB.trans (hB104.mono hB.size)
  clear hB hB104
  have hB := hB'
  clear hB'
  go_wp2_with fail
  refine (do_3 a P _).mono ?_
  rintro e w105 ⟨rfl, hB105⟩
  rw [F.hm]
  have hB' := hB.trans (hB105.mono hB.size)
  clear hB hB105
  have hB := hB'
  clear hB'
  go_wp2_with fail
  refine (do_10 a _ _).mono ?_
  rintro e w106 ⟨rfl, hB106⟩
  rw [F.hupn]
  have hB' := hB.trans (hB106.mono hB.size)
  clear hB hB106
  have hB := hB'
  clear hB'
  go_wp2_with fail
  refine (do_12 a _ _).mono ?_
  rintro e w107 ⟨rfl, hB107⟩
  rw [F.hdownn]
  have hB' := hB.trans (hB107.mono hB.size)
  clear hB hB107
  have hB := hB'
  clear hB'
  go_wp2_with fail
  refine (do_11 a _ _).mono ?_
  rintro e w108 ⟨rfl, hB108⟩
  rw [F.hlown]
  have hB' := hB.trans (hB108.mono hB.size)
  clear hB hB108
  have hB := hB'
  clear hB'
  go_wp2_with fail
  refine (exact_any 10 (by decide) (by decide) a b _).mono ?_
  rintro e w109 ⟨rfl, hB109⟩
  rw [hX, appE_10]
  have hB' := hB.trans (hB109.mono hB.size)
  clear hB hB109
  have hB := hB'
  clear hB'
  go_wp2_with fail
  refine (do_12 up b _).mono ?_
  rintro e w110 ⟨rfl, hB110⟩
  rw [F.hback]
  have hB' := hB.trans (hB110.mono hB.size)
  clear hB hB110
  have hB := hB'
  clear hB'
  go_wp2_with fail
  refine (do_10 down b _).mono ?_
  rintro e w111 ⟨rfl, hB111⟩
  rw [F.hD]
  have hB' := hB.trans (hB111.mono hB.size)
  clear hB hB111
  have hB := hB'
  clear hB'
  go_wp2_with fail
  refine (do_2 a _ _).mono ?_
  rintro e w112 ⟨rfl, hB112⟩
  rw [F.hR]
  have hB' := hB.trans (hB112.mono hB.size)
  clear hB hB112
  have hB := hB'
  clear hB'
  try rw [HL.out]
  go_wp2_with fail
  refine (awake_any _).mono ?_
  rintro e w113 ⟨rfl, hB113⟩
  have hB' := hB.trans (hB113.mono hB.size)
  clear hB hB113
  have hB := hB'
  clear hB'
  go_wp2_with fail
  go_ret
  exact ⟨rfl, hB⟩

set_option maxRecDepth 100000 in
set_option maxHeartbeats 4000000 in
theorem sh_mp (a b n P Q up down low back D R : BitVec 64) (X : Bool) (F : ShF a b n P Q up down low back D R)
    (hX : exactV 10 a b = X) (hbX : (back == a) = X) (ds : down.slt 0#64 = false) (as0 : a.slt 0#64 = false) (ale : (0#64).sle a = true) (hn0 : (n == 0#64) = false) (hn1 : (0#64).slt n = true) (hn2 : n.slt 63#64 = true) (r1 : R.slt 0#64 = false) (r2 : P.sle R = false) (hl : low = down) (w : World) :
    Calls Try.prog 6 #[s a, s b] w fun e w' => e = .returned (.bool true) ∧ Below w.heap.size w w' := by
  have hnn := F.hn
  have HL := Hd.mk hl
  clear hl
  go_enter Try.func6, Try.ntmps6
  go_wp2_with fail
  refine (do_10 1#64 _ _).mono ?_
  rintro e w1 ⟨rfl, hB⟩
  rw [F.hP]
  go_wp2_with fail
  refine (do_10 a b _).mono ?_
  rintro e w102 ⟨rfl, hB102⟩
  rw [F.hup]
  have hB' := hB.trans (hB102.mono hB.size)
  clear hB hB102
  have hB := hB'
  clear hB'
  go_wp2_with fail
  refine (do_12 a b _).mono ?_
  rintro e w103 ⟨rfl, hB103⟩
  rw [F.hdown]
  have hB' := hB.trans (hB103.mono hB.size)
  clear hB hB103
  have hB := hB'
  clear hB'
  go_wp2_with fail
  refine (do_11 a b _).mono ?_
  rintro e w104 ⟨rfl, hB104⟩
  rw [F.hlow]
  have hB' := hB.trans (hB104.mono hB.size)
  clear hB hB104
  have hB := hB'
  clear hB'
  go_wp2_with fail
  refine (do_3 a P _).mono ?_
  rintro e w105 ⟨rfl, hB105⟩
  rw [F.hm]
  have hB' := hB.trans (hB105.mono hB.size)
  clear hB hB105
  have hB := hB'
  clear hB'
  go_wp2_with fail
  refine (do_10 a _ _).mono ?_
  rintro e w106 ⟨rfl, hB106⟩
  rw [F.hupn]
  have hB' := hB.trans (hB106.mono hB.size)
  clear hB hB106
  have hB := hB'
  clear hB'
  go_wp2_with fail
  refine (do_12 a _ _).mono ?_
  rintro e w107 ⟨rfl, hB107⟩
  rw [F.hdownn]
  have hB' := hB.trans (hB107.mono hB.size)
  clear hB hB107
  have hB := hB'
  clear hB'
  go_wp2_with fail
  refine (do_11 a _ _).mono ?_
  rintro e w108 ⟨rfl, hB108⟩
  rw [F.hlown]
  have hB' := hB.trans (hB108.mono hB.size)
  clear hB hB108
  have hB := hB'
  clear hB'
  go_wp2_with fail
  refine (exact_any 10 (by decide) (by decide) a b _).mono ?_
  rintro e w109 ⟨rfl, hB109⟩
  rw [hX, appE_10]
  have hB' := hB.trans (hB109.mono hB.size)
  clear hB hB109
  have hB := hB'
  clear hB'
  go_wp2_with fail
  refine (do_12 up b _).mono ?_
  rintro e w110 ⟨rfl, hB110⟩
  rw [F.hback]
  have hB' := hB.trans (hB110.mono hB.size)
  clear hB hB110
  have hB := hB'
  clear hB'
  go_wp2_with fail
  refine (do_10 down b _).mono ?_
  rintro e w111 ⟨rfl, hB111⟩
  rw [F.hD]
  have hB' := hB.trans (hB111.mono hB.size)
  clear hB hB111
  have hB := hB'
  clear hB'
  go_wp2_with fail
  refine (do_2 a _ _).mono ?_
  rintro e w112 ⟨rfl, hB112⟩
  rw [F.hR]
  have hB' := hB.trans (hB112.mono hB.size)
  clear hB hB112
  have hB := hB'
  clear hB'
  try rw [HL.out]
  go_wp2_with fail
  refine (awake_any _).mono ?_
  rintro e w113 ⟨rfl, hB113⟩
  have hB' := hB.trans (hB113.mono hB.size)
  clear hB hB113
  have hB := hB'
  clear hB'
  go_wp2_with fail
  go_ret
  exact ⟨rfl, hB⟩

set_option maxRecDepth 100000 in
set_option maxHeartbeats 4000000 in
theorem sh_mn (a b n P Q up down low back D R : BitVec 64) (X : Bool) (F : ShF a b n P Q up down low back D R)
    (hX : exactV 10 a b = X) (hbX : (back == a) = X) (ds : down.slt 0#64 = true) (as0 : a.slt 0#64 = true) (ale : (0#64).sle a = false) (hn0 : (n == 0#64) = false) (hn1 : (0#64).slt n = true) (hn2 : n.slt 63#64 = true) (r1 : R.slt 0#64 = false) (r2 : P.sle R = false) (hl : low = down + Q) (w : World) :
    Calls Try.prog 6 #[s a, s b] w fun e w' => e = .returned (.bool true) ∧ Below w.heap.size w w' := by
  have hnn := F.hn
  have HL := Hd.mk hl
  clear hl
  go_enter Try.func6, Try.ntmps6
  go_wp2_with fail
  refine (do_10 1#64 _ _).mono ?_
  rintro e w1 ⟨rfl, hB⟩
  rw [F.hP]
  go_wp2_with fail
  refine (do_10 a b _).mono ?_
  rintro e w102 ⟨rfl, hB102⟩
  rw [F.hup]
  have hB' := hB.trans (hB102.mono hB.size)
  clear hB hB102
  have hB := hB'
  clear hB'
  go_wp2_with fail
  refine (do_12 a b _).mono ?_
  rintro e w103 ⟨rfl, hB103⟩
  rw [F.hdown]
  have hB' := hB.trans (hB103.mono hB.size)
  clear hB hB103
  have hB := hB'
  clear hB'
  go_wp2_with fail
  refine (do_11 a b _).mono ?_
  rintro e w104 ⟨rfl, hB104⟩
  rw [F.hlow]
  have hB' := hB.trans (hB104.mono hB.size)
  clear hB hB104
  have hB := hB'
  clear hB'
  go_wp2_with fail
  refine (do_3 a P _).mono ?_
  rintro e w105 ⟨rfl, hB105⟩
  rw [F.hm]
  have hB' := hB.trans (hB105.mono hB.size)
  clear hB hB105
  have hB := hB'
  clear hB'
  go_wp2_with fail
  refine (do_10 a _ _).mono ?_
  rintro e w106 ⟨rfl, hB106⟩
  rw [F.hupn]
  have hB' := hB.trans (hB106.mono hB.size)
  clear hB hB106
  have hB := hB'
  clear hB'
  go_wp2_with fail
  refine (do_12 a _ _).mono ?_
  rintro e w107 ⟨rfl, hB107⟩
  rw [F.hdownn]
  have hB' := hB.trans (hB107.mono hB.size)
  clear hB hB107
  have hB := hB'
  clear hB'
  go_wp2_with fail
  refine (do_11 a _ _).mono ?_
  rintro e w108 ⟨rfl, hB108⟩
  rw [F.hlown]
  have hB' := hB.trans (hB108.mono hB.size)
  clear hB hB108
  have hB := hB'
  clear hB'
  go_wp2_with fail
  refine (exact_any 10 (by decide) (by decide) a b _).mono ?_
  rintro e w109 ⟨rfl, hB109⟩
  rw [hX, appE_10]
  have hB' := hB.trans (hB109.mono hB.size)
  clear hB hB109
  have hB := hB'
  clear hB'
  go_wp2_with fail
  refine (do_12 up b _).mono ?_
  rintro e w110 ⟨rfl, hB110⟩
  rw [F.hback]
  have hB' := hB.trans (hB110.mono hB.size)
  clear hB hB110
  have hB := hB'
  clear hB'
  go_wp2_with fail
  refine (do_10 down b _).mono ?_
  rintro e w111 ⟨rfl, hB111⟩
  rw [F.hD]
  have hB' := hB.trans (hB111.mono hB.size)
  clear hB hB111
  have hB := hB'
  clear hB'
  go_wp2_with fail
  refine (do_2 a _ _).mono ?_
  rintro e w112 ⟨rfl, hB112⟩
  rw [F.hR]
  have hB' := hB.trans (hB112.mono hB.size)
  clear hB hB112
  have hB := hB'
  clear hB'
  go_wp2_with fail
  refine (do_10 1#64 _ _).mono ?_
  rintro e w113 ⟨rfl, hB113⟩
  rw [F.hQ]
  have hB' := hB.trans (hB113.mono hB.size)
  clear hB hB113
  have hB := hB'
  clear hB'
  go_wp2_with fail
  refine (do_1 down Q _).mono ?_
  rintro e w114 ⟨rfl, hB114⟩
  rw [← HL.out]
  have hB' := hB.trans (hB114.mono hB.size)
  clear hB hB114
  have hB := hB'
  clear hB'
  go_wp2_with fail
  refine (awake_any _).mono ?_
  rintro e w115 ⟨rfl, hB115⟩
  have hB' := hB.trans (hB115.mono hB.size)
  clear hB hB115
  have hB := hB'
  clear hB'
  go_wp2_with fail
  go_ret
  exact ⟨rfl, hB⟩

set_option maxRecDepth 100000 in
set_option maxHeartbeats 4000000 in
theorem sh_lp (a b n P Q up down low back D R : BitVec 64) (X : Bool) (F : ShF a b n P Q up down low back D R)
    (hX : exactV 10 a b = X) (hbX : (back == a) = X) (ds : down.slt 0#64 = false) (as0 : a.slt 0#64 = false) (ale : (0#64).sle a = true) (hn0 : (n == 0#64) = false) (hn1 : (0#64).slt n = true) (hn2 : n.slt 63#64 = false) (hl : low = down) (w : World) :
    Calls Try.prog 6 #[s a, s b] w fun e w' => e = .returned (.bool true) ∧ Below w.heap.size w w' := by
  have hnn := F.hn
  have HL := Hd.mk hl
  clear hl
  go_enter Try.func6, Try.ntmps6
  go_wp2_with fail
  refine (do_10 1#64 _ _).mono ?_
  rintro e w1 ⟨rfl, hB⟩
  rw [F.hP]
  go_wp2_with fail
  refine (do_10 a b _).mono ?_
  rintro e w102 ⟨rfl, hB102⟩
  rw [F.hup]
  have hB' := hB.trans (hB102.mono hB.size)
  clear hB hB102
  have hB := hB'
  clear hB'
  go_wp2_with fail
  refine (do_12 a b _).mono ?_
  rintro e w103 ⟨rfl, hB103⟩
  rw [F.hdown]
  have hB' := hB.trans (hB103.mono hB.size)
  clear hB hB103
  have hB := hB'
  clear hB'
  go_wp2_with fail
  refine (do_11 a b _).mono ?_
  rintro e w104 ⟨rfl, hB104⟩
  rw [F.hlow]
  have hB' := hB.trans (hB104.mono hB.size)
  clear hB hB104
  have hB := hB'
  clear hB'
  go_wp2_with fail
  refine (do_3 a P _).mono ?_
  rintro e w105 ⟨rfl, hB105⟩
  rw [F.hm]
  have hB' := hB.trans (hB105.mono hB.size)
  clear hB hB105
  have hB := hB'
  clear hB'
  go_wp2_with fail
  refine (do_10 a _ _).mono ?_
  rintro e w106 ⟨rfl, hB106⟩
  rw [F.hupn]
  have hB' := hB.trans (hB106.mono hB.size)
  clear hB hB106
  have hB := hB'
  clear hB'
  go_wp2_with fail
  refine (do_12 a _ _).mono ?_
  rintro e w107 ⟨rfl, hB107⟩
  rw [F.hdownn]
  have hB' := hB.trans (hB107.mono hB.size)
  clear hB hB107
  have hB := hB'
  clear hB'
  go_wp2_with fail
  refine (do_11 a _ _).mono ?_
  rintro e w108 ⟨rfl, hB108⟩
  rw [F.hlown]
  have hB' := hB.trans (hB108.mono hB.size)
  clear hB hB108
  have hB := hB'
  clear hB'
  go_wp2_with fail
  refine (exact_any 10 (by decide) (by decide) a b _).mono ?_
  rintro e w109 ⟨rfl, hB109⟩
  rw [hX, appE_10]
  have hB' := hB.trans (hB109.mono hB.size)
  clear hB hB109
  have hB := hB'
  clear hB'
  go_wp2_with fail
  refine (do_12 up b _).mono ?_
  rintro e w110 ⟨rfl, hB110⟩
  rw [F.hback]
  have hB' := hB.trans (hB110.mono hB.size)
  clear hB hB110
  have hB := hB'
  clear hB'
  go_wp2_with fail
  refine (do_10 down b _).mono ?_
  rintro e w111 ⟨rfl, hB111⟩
  rw [F.hD]
  have hB' := hB.trans (hB111.mono hB.size)
  clear hB hB111
  have hB := hB'
  clear hB'
  go_wp2_with fail
  refine (do_2 a _ _).mono ?_
  rintro e w112 ⟨rfl, hB112⟩
  rw [F.hR]
  have hB' := hB.trans (hB112.mono hB.size)
  clear hB hB112
  have hB := hB'
  clear hB'
  try rw [HL.out]
  go_wp2_with fail
  refine (awake_any _).mono ?_
  rintro e w113 ⟨rfl, hB113⟩
  have hB' := hB.trans (hB113.mono hB.size)
  clear hB hB113
  have hB := hB'
  clear hB'
  go_wp2_with fail
  go_ret
  exact ⟨rfl, hB⟩

set_option maxRecDepth 100000 in
set_option maxHeartbeats 4000000 in
theorem sh_ln (a b n P Q up down low back D R : BitVec 64) (X : Bool) (F : ShF a b n P Q up down low back D R)
    (hX : exactV 10 a b = X) (hbX : (back == a) = X) (ds : down.slt 0#64 = true) (as0 : a.slt 0#64 = true) (ale : (0#64).sle a = false) (hn0 : (n == 0#64) = false) (hn1 : (0#64).slt n = true) (hn2 : n.slt 63#64 = false) (hl : low = down + Q) (w : World) :
    Calls Try.prog 6 #[s a, s b] w fun e w' => e = .returned (.bool true) ∧ Below w.heap.size w w' := by
  have hnn := F.hn
  have HL := Hd.mk hl
  clear hl
  go_enter Try.func6, Try.ntmps6
  go_wp2_with fail
  refine (do_10 1#64 _ _).mono ?_
  rintro e w1 ⟨rfl, hB⟩
  rw [F.hP]
  go_wp2_with fail
  refine (do_10 a b _).mono ?_
  rintro e w102 ⟨rfl, hB102⟩
  rw [F.hup]
  have hB' := hB.trans (hB102.mono hB.size)
  clear hB hB102
  have hB := hB'
  clear hB'
  go_wp2_with fail
  refine (do_12 a b _).mono ?_
  rintro e w103 ⟨rfl, hB103⟩
  rw [F.hdown]
  have hB' := hB.trans (hB103.mono hB.size)
  clear hB hB103
  have hB := hB'
  clear hB'
  go_wp2_with fail
  refine (do_11 a b _).mono ?_
  rintro e w104 ⟨rfl, hB104⟩
  rw [F.hlow]
  have hB' := hB.trans (hB104.mono hB.size)
  clear hB hB104
  have hB := hB'
  clear hB'
  go_wp2_with fail
  refine (do_3 a P _).mono ?_
  rintro e w105 ⟨rfl, hB105⟩
  rw [F.hm]
  have hB' := hB.trans (hB105.mono hB.size)
  clear hB hB105
  have hB := hB'
  clear hB'
  go_wp2_with fail
  refine (do_10 a _ _).mono ?_
  rintro e w106 ⟨rfl, hB106⟩
  rw [F.hupn]
  have hB' := hB.trans (hB106.mono hB.size)
  clear hB hB106
  have hB := hB'
  clear hB'
  go_wp2_with fail
  refine (do_12 a _ _).mono ?_
  rintro e w107 ⟨rfl, hB107⟩
  rw [F.hdownn]
  have hB' := hB.trans (hB107.mono hB.size)
  clear hB hB107
  have hB := hB'
  clear hB'
  go_wp2_with fail
  refine (do_11 a _ _).mono ?_
  rintro e w108 ⟨rfl, hB108⟩
  rw [F.hlown]
  have hB' := hB.trans (hB108.mono hB.size)
  clear hB hB108
  have hB := hB'
  clear hB'
  go_wp2_with fail
  refine (exact_any 10 (by decide) (by decide) a b _).mono ?_
  rintro e w109 ⟨rfl, hB109⟩
  rw [hX, appE_10]
  have hB' := hB.trans (hB109.mono hB.size)
  clear hB hB109
  have hB := hB'
  clear hB'
  go_wp2_with fail
  refine (do_12 up b _).mono ?_
  rintro e w110 ⟨rfl, hB110⟩
  rw [F.hback]
  have hB' := hB.trans (hB110.mono hB.size)
  clear hB hB110
  have hB := hB'
  clear hB'
  go_wp2_with fail
  refine (do_10 down b _).mono ?_
  rintro e w111 ⟨rfl, hB111⟩
  rw [F.hD]
  have hB' := hB.trans (hB111.mono hB.size)
  clear hB hB111
  have hB := hB'
  clear hB'
  go_wp2_with fail
  refine (do_2 a _ _).mono ?_
  rintro e w112 ⟨rfl, hB112⟩
  rw [F.hR]
  have hB' := hB.trans (hB112.mono hB.size)
  clear hB hB112
  have hB := hB'
  clear hB'
  go_wp2_with fail
  refine (do_10 1#64 _ _).mono ?_
  rintro e w113 ⟨rfl, hB113⟩
  rw [F.hQ]
  have hB' := hB.trans (hB113.mono hB.size)
  clear hB hB113
  have hB := hB'
  clear hB'
  go_wp2_with fail
  refine (do_1 down Q _).mono ?_
  rintro e w114 ⟨rfl, hB114⟩
  rw [← HL.out]
  have hB' := hB.trans (hB114.mono hB.size)
  clear hB hB114
  have hB := hB'
  clear hB'
  go_wp2_with fail
  refine (awake_any _).mono ?_
  rintro e w115 ⟨rfl, hB115⟩
  have hB' := hB.trans (hB115.mono hB.size)
  clear hB hB115
  have hB := hB'
  clear hB'
  go_wp2_with fail
  go_ret
  exact ⟨rfl, hB⟩

end Go.Proofs.Ytbmommomhepfpaa
