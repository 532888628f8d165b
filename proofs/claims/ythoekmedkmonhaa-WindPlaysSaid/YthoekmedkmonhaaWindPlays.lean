/- WindPlays: for all arguments, with no condition. -/
import Derived.Outline
import Derived.Deep.DeepCutAuto
import Derived.IntWalk
import Derived.Test.YthoekmedkmonhaaRows
import Derived.ProofKit
import Derived.OpenShut
import Derived.ShutString
import Derived.ChangeOld
import Derived.SizedLaws
import Derived.Test.YthoekmedkmonhaaWh
import Derived.Test.YthoekmedkmonhaaWj
import Derived.Test.YthoekmedkmonhaaWci
import Derived.Test.YthoekmedkmonhaaWSized
import Derived.Test.YthoekmedkmonhaaWm
import Derived.Test.YthoekmedkmonhaaWn
import Derived.Maps.RangeWalk
import Derived.Test.YthoekmedkmonhaaWk
import Derived.Laws.OwnMore
import Derived.OwnWalk
namespace Go.Proofs.Ythoekmedkmonhaa.Wi
open Go Go.RowKit Go.Maps Go.Shelf Go.Proofs.Ythoekmedkmonhaa Go.Proofs.YthoekmedkmonhaaW.PrintWords Go.Proofs.YthoekmedkmonhaaW.PrintLast Go.Proofs.YthoekmedkmonhaaW.PrintMore
attribute [local go_sem] Oper.semAt_some
attribute [local go_sem] max2_int min2_int max_two min_two
set_option linter.unusedVariables false
set_option linter.unusedSimpArgs false

theorem wf_inv {n : Int} (h : (Lit.int .i64 n).wf = true) : Wf n := by
  simp [Lit.wf, IntKind.min, IntKind.max, IntKind.signed, IntKind.bits] at h
  exact h
theorem bits_lt (n : Int) (p m : Nat) (e : Int) (he : e = ((m : Nat) : Int)) (hm : m < 2 ^ p) (hp : p < 60) : ∃ N : Nat, Go.bits .and .i64 n e = (N : Int) ∧ N ≤ m := by
  subst he
  simp only [Go.bits, BitVec.ofInt_natCast, BitVec.toNat_and]
  have h : (BitVec.ofInt IntKind.i64.bits n).toNat &&& (BitVec.ofNat IntKind.i64.bits m).toNat ≤ m := Nat.le_trans Nat.and_le_right (by rw [BitVec.toNat_ofNat]; exact Nat.mod_le _ _)
  have h2 : m < 2 ^ 60 := Nat.lt_of_lt_of_le hm (Nat.pow_le_pow_right (by decide) (by omega))
  generalize (BitVec.ofInt IntKind.i64.bits n).toNat &&& (BitVec.ofNat IntKind.i64.bits m).toNat = t at h ⊢
  exact ⟨t, by rw [IntKind.wrap_i64]; omega, h⟩

def TM (a0 : Int) (a1 : Option Addr) (len cap : Nat) (a2 : Int) (B3 B5 B6 bw bv B9 : Nat) (i : Nat) (u : Nat → Value) : Array Value := #[.int .i64 a0, .slice a1 len cap, .int .i64 a2, .pointer (some ⟨B3, 0, none⟩), undef, .pointer (some ⟨B5, 0, none⟩), .pointer (some ⟨B6, 0, none⟩), .pointer (some ⟨bw, 0, none⟩), .pointer (some ⟨bv, 0, none⟩), .pointer (some ⟨B9, 0, none⟩), .func (.func 29) #[] #[.pointer (some ⟨B3, 0, none⟩), .pointer (some ⟨B9, 0, none⟩)], .int .i64 (i : Int), u 12, u 13, u 14, u 15, u 16, u 17, u 18, u 19, u 20, u 21, u 22, u 23, u 24, u 25, u 26, u 27, u 28, u 29, u 30, u 31, u 32, u 33, u 34, u 35, u 36, u 37, u 38, u 39, u 40, u 41, u 42, u 43, u 44, u 45, u 46, u 47, u 48, u 49, u 50, u 51, u 52, u 53, u 54, u 55, u 56, u 57, u 58, u 59, u 60, u 61, u 62, u 63, u 64, u 65, u 66, u 67, u 68, u 69, u 70, u 71, u 72, u 73, u 74, u 75, u 76, u 77, u 78, u 79, u 80, u 81, u 82, u 83, u 84, u 85, u 86, u 87, u 88, u 89, u 90, u 91, u 92, u 93, u 94, u 95, u 96, u 97, u 98, u 99, u 100, u 101, u 102, u 103, u 104, u 105, u 106, u 107, u 108, u 109, u 110, u 111, u 112, u 113, u 114, u 115, u 116, u 117, u 118, u 119, u 120, u 121, u 122, u 123, u 124, u 125, u 126, u 127, u 128, u 129, u 130, u 131, u 132, u 133, u 134, u 135, u 136, u 137, u 138, u 139, u 140, u 141, u 142, u 143, u 144, u 145, u 146, u 147, u 148, u 149, u 150, u 151, u 152, u 153, u 154, u 155, u 156, u 157, u 158, u 159, u 160, u 161, u 162, u 163, u 164, u 165, u 166, u 167, u 168, u 169, u 170, u 171, u 172, u 173, u 174, u 175, u 176, u 177, u 178, u 179, u 180, u 181, u 182, u 183, u 184, u 185, u 186, u 187, u 188, u 189, u 190, u 191, u 192, u 193, u 194, u 195, u 196, u 197, u 198, u 199, u 200, u 201, u 202, u 203, u 204, u 205, u 206, u 207, u 208, u 209, u 210, u 211, u 212, u 213, u 214, u 215, u 216, u 217, u 218, u 219, u 220, u 221, u 222, u 223, u 224, u 225, u 226, u 227, u 228, u 229, u 230, u 231, u 232, u 233, u 234, u 235, u 236, u 237, u 238, u 239, u 240, u 241, u 242, u 243, u 244, u 245, u 246, u 247, u 248, u 249, u 250, u 251, u 252, u 253, u 254, u 255, u 256, u 257, u 258, u 259, u 260, u 261, u 262, u 263, u 264, u 265, u 266, u 267, u 268, u 269, u 270, u 271, u 272, u 273, u 274, u 275, u 276, u 277, u 278, u 279, u 280, u 281, u 282, u 283, u 284, u 285, u 286, u 287, u 288, u 289, u 290, u 291, u 292, u 293, u 294, u 295, u 296, u 297, u 298, u 299, u 300, u 301, u 302, u 303, u 304, u 305, u 306, u 307, u 308, u 309, u 310, u 311, u 312]

theorem row_alloc {w : World} {base k : Nat} {v : Value} {xs : List Value} (h : w.ownsRow base 3 1 v k xs) (o : Obj) : (w.alloc o).ownsRow base 3 1 v k xs := h.alloc o
theorem lw_one {n : Nat} (h : n ≤ 15) : wrap64 ((n : Int) + 1) = (n : Int) + 1 ∧ ¬ ((n : Int) + 1 < 0) := by unfold wrap64; omega
theorem below_drew {W w' : World} (h : Below W.drew.heap.size W.drew w') : Aside0 (Below W.heap.size W w') := ⟨((Below.refl _ W).drew).trans h⟩
theorem wf_inv0 {n : Int} (h : (Lit.int .i64 n).wf = true) : Wf n := by
  simp [Lit.wf, IntKind.min, IntKind.max, IntKind.signed, IntKind.bits] at h
  exact h
theorem Tn.trans' {b : Nat} {w w1 w2 : World} {r : Nat} (h : Tn b b w w1) (hg : w1.grownBy w2 (some r)) (hr : w.heap.size ≤ r) : Tn b b w w2 :=
  ⟨hg.os.trans h.os, hg.tape.trans h.tape, hg.output.trans h.output, Nat.le_trans h.size hg.size, fun j hj h1 h2 => (hg.block j (Nat.lt_of_lt_of_le hj h.size) (fun e => by injection e with e; omega)).trans (h.block j hj h1 h2)⟩

def RowI (w : World) (a : Option Addr) (len : Nat) : Prop := 0 < len → ∃ x, a = some x ∧ ∀ j, j < len → ∃ z : Int, w.cell? (x.add j) = some (.int .i64 z)

set_option maxRecDepth 100000 in
set_option maxHeartbeats 8000000 in
theorem plays_n (a0 : Int) (a1 : Option Addr) (len cap : Nat) (a2 : Int) (N : Nat) (w : World) (hbN : Go.bits .and .i64 a0 65535 = (N : Int)) (hN : N ≤ 65535) (hR : RowI w a1 len) (hlen : len < 1000000000000000) :
    Calls Try.prog 6 #[.int .i64 a0, .slice a1 len cap, .int .i64 a2] w (SameEnd w true) := by
  have HR := Aside0.mk hR
  clear hR
  have hmx : ¬ ((N : Int) < 0) := by omega
  have hmm := @run_makeMap Try.prog
  refine (callsIn_wide (n := 9)).1 ?_
  refine callsIn_of_wp_marks Try.func6 rfl trivial ?_ rfl
  refine wpIn_wide.2 ?_
  simp only [Try.ntmps6, List.size_toArray, List.length_cons, List.length_nil, Nat.reduceAdd, Nat.reduceSub, Array.replicate_succ, Array.replicate_zero, List.push_toArray, List.append_toArray, List.nil_append, List.cons_append, List.append_eq]
  obtain ⟨W0, hW0⟩ : ∃ W0, (((w.alloc (.cells #[.int .i64 (N : Int)] 3)).alloc (.cells #[.int .i64 a2] 3)).alloc (.cells #[.bool false] 4)) = W0 := ⟨_, rfl⟩
  obtain ⟨B3, hB3⟩ : ∃ B3, B3 = w.heap.size := ⟨_, rfl⟩
  have hs0 : W0.heap.size = B3 + 1 + 1 + 1 := by rw [← hW0, hB3]; simp
  have b3 : Boxed W0 B3 3 (.int .i64 (N : Int)) := by rw [← hW0, hB3]; exact ((Boxed.new w 3 _).alloc _).alloc _
  have b5 : Boxed W0 (B3 + 1) 3 (.int .i64 a2) := by
    rw [← hW0, hB3]
    have := Boxed.new (w.alloc (.cells #[.int .i64 (N : Int)] 3)) 3 (.int .i64 a2)
    rw [World.size_alloc] at this
    exact this.alloc _
  have b6 : Boxed W0 (B3 + 1 + 1) 4 (.bool false) := by
    rw [← hW0, hB3]
    have := Boxed.new ((w.alloc (.cells #[.int .i64 (N : Int)] 3)).alloc (.cells #[.int .i64 a2] 3)) 4 (.bool false)
    rwa [World.size_alloc, World.size_alloc] at this
  have hbel0 : Below w.heap.size w W0 := by
    rw [← hW0]
    exact (((Below.refl _ w).alloc (Nat.le_refl _) _).alloc (by simp) _).alloc (by simp; omega) _
  have HW0 := Aside0.mk hW0
  have HB3 := Aside0.mk hB3
  have HBX := Aside0.mk (And.intro b3 (And.intro b5 (And.intro b6 (And.intro hbel0 hs0))))
  clear b3 b5 b6 hbel0 hs0 hW0 hB3
  go_wp2_with fail
  rw [HW0.out, ← HB3.out]
  refine (new8 (N : Int) W0).mono ?_
  rw [show min (max (N : Int) 0) 1099511627776 = (N : Int) by omega]
  rintro e w1 ⟨bw, mw, rfl, hbw, hmw, hw1, hB1⟩
  have HN1 := Aside0.mk (And.intro hbw (And.intro hmw (And.intro hw1 hB1)))
  have hbx3 := (show Boxed w1 B3 3 _ from (hB1.block _ HBX.out.1.lt).trans HBX.out.1).cell
  clear hbw hmw hw1 hB1
  go_wp2_with fail
  refine (new28 (N : Int) w1).mono ?_
  rw [show min (max (N : Int) 0) 1099511627776 = (N : Int) by omega]
  rintro e w2 ⟨bv, mv, rfl, hbv, hmv, hw2, hB2⟩
  have HN2 := Aside0.mk (And.intro hbv (And.intro hmv (And.intro hw2 hB2)))
  clear hbv hmv hw2 hB2 hbx3
  obtain ⟨W3, hW3⟩ : ∃ W3, ((w2.alloc (.map #[] 0)).alloc (.cells #[.map (some w2.heap.size)] 49)) = W3 := ⟨_, rfl⟩
  obtain ⟨mh, hmh⟩ : ∃ mh, mh = w2.heap.size := ⟨_, rfl⟩
  have b9 : Boxed W3 (mh + 1) 49 (.map (some mh)) := by
    rw [← hW3, hmh]
    have := Boxed.new (w2.alloc (.map #[] 0)) 49 (.map (some w2.heap.size))
    rwa [World.size_alloc] at this
  have hm9 : Mf W3 mh 0 (fun _ => none) := by rw [← hW3, hmh]; exact (Mf.made w2).of_block (Below.heap_alloc _ _ _ (by simp))
  have hbel3 : Below w2.heap.size w2 W3 := by rw [← hW3]; exact ((Below.refl _ w2).alloc (Nat.le_refl _) _).alloc (by simp) _
  have HW3 := Aside0.mk hW3
  have HMH := Aside0.mk hmh
  clear hW3 hmh
  obtain ⟨x3, x5, x6, xb0, xs0⟩ := HBX.out
  obtain ⟨y1, y2, y3, y4⟩ := HN1.out
  obtain ⟨z1, z2, z3, z4⟩ := HN2.out
  have hsz1 := y4.size
  have hsz2 := z4.size
  have hO : B3 + 1 + 1 < bw ∧ B3 + 1 + 1 < mw ∧ bw < bv ∧ bw < mv ∧ mw < bv ∧ mw < mv ∧ bv < mh ∧ mv < mh ∧ bw ≠ mw ∧ bv ≠ mv := by
    have q1 := y3.blt
    have q2 := y3.mlt
    have q3 := z3.blt
    have q4 := z3.mlt
    have q5 := HMH.out
    exact ⟨by omega, by omega, by omega, by omega, by omega, by omega, by omega, by omega, y3.ne.symm, z3.ne.symm⟩
  have hbw3 : w.heap.size = B3 := HB3.out.symm
  have HPL : Aside0 (PlI w B3 (B3 + 1) (B3 + 1 + 1) (mh + 1) bw mw bv mv mh a2 0 [] ⟨(N : Int), (N : Int), (N : Int), fun _ => none⟩ ⟨(N : Int), (N : Int), (N : Int), fun _ => none⟩ W3) := by
    have e12 : Below W0.heap.size W0 W3 := (y4.trans (z4.mono y4.size)).trans (hbel3.mono (Nat.le_trans y4.size z4.size))
    have e2 : Below w1.heap.size w1 W3 := z4.trans (hbel3.mono z4.size)
    exact ⟨(e12.block _ x3.lt).trans x3, (e12.block _ x5.lt).trans x5, (e12.block _ x6.lt).trans x6, b9, y3.below e2 y3.blt y3.mlt, new_iv (N : Int) (by omega) (by omega), z3.below hbel3 z3.blt z3.mlt, new_iv (N : Int) (by omega) (by omega),
      hm9, ⟨rfl, fun _ _ => rfl, fun _ _ h => (by cases h)⟩, fun _ h => (by cases h), List.nodup_nil, xb0.trans (e12.mono xb0.size)⟩
  have HO := Aside0.mk hO
  clear hO x3 x5 x6 xb0 xs0 y1 y2 y3 y4 z1 z2 z3 z4 hsz1 hsz2 b9 hm9 hbel3 hbw3 HBX HN1 HN2
  go_wp2_with fail
  rw [HW3.out, ← HMH.out]
  refine wp_loop (fun a' wr => ∃ (i : Nat) (ds : List Nat) (sw sv : Wd), a' = { tmps := TM a0 a1 len cap a2 B3 (B3 + 1) (B3 + 1 + 1) bw bv (mh + 1) i (fun n => a'.tmps.getD n undef), defers := ds.map (fun D => ({ target := .collected D, args := #[] } : Deferred)) } ∧ i ≤ len ∧ i ≤ 60 ∧ Aside0 (PlI w B3 (B3 + 1) (B3 + 1 + 1) (mh + 1) bw mw bv mv mh a2 i ds sw sv wr)) (fun a' _ => (60 - intOf (a'.tmps.getD 11 undef)).toNat) ?start ?round
  case start => exact ⟨0, [], _, _, rfl, Nat.zero_le _, Nat.zero_le _, HPL⟩
  case round =>
    clear HPL HW0 HW3 HMH
    rintro a' wr ⟨i, ds, sw, sv, ha, hil, hi60, HP⟩
    obtain ⟨u, ha⟩ : ∃ u : Nat → Value, a' = { tmps := TM a0 a1 len cap a2 B3 (B3 + 1) (B3 + 1 + 1) bw bv (mh + 1) i u, defers := ds.map (fun D => ({ target := .collected D, args := #[] } : Deferred)) } := ⟨_, ha⟩
    obtain ⟨dd, hdd⟩ : ∃ dd, dd = ds.map (fun D => ({ target := .collected D, args := #[] } : Deferred)) := ⟨_, rfl⟩
    rw [← hdd] at ha
    subst ha
    have HDD := Aside0.mk hdd
    clear hdd
    simp only [TM]
    by_cases hlt : i < len
    · by_cases hlt2 : i < 60
      · have hkl : (i : Int) < (len : Int) := by omega
        have hk3 : (i : Int) < 60 := by omega
        have hk0 : (0 : Int) ≤ (i : Int) := by omega
        obtain ⟨x, hxa, hcell⟩ := HR.out (by omega)
        obtain ⟨z, hz⟩ := hcell i hlt
        have hd : wr.cell? (x.add i) = some (.int .i64 z) := (HP.out.bel.cell (World.block_lt_of_cell? w _ hz)).trans hz
        have HZ := Aside0.mk hz
        clear hz hcell
        subst hxa
        have hb3 := HP.out.b3.cell
        have hdd : wr.drew.cell? (x.add i) = some (.int .i64 z) := hd
        have hb3d : wr.drew.cell? ⟨B3, 0, none⟩ = some (.int .i64 sw.fr) := hb3
        obtain ⟨K7, hb7, hK7⟩ := bits_lt (z / 8) 7 127 127 rfl (by decide) (by decide)
        obtain ⟨Q4, hb4, hQ4⟩ := bits_lt z 3 4 4 rfl (by decide) (by decide)
        obtain ⟨R2, hbr, hR2⟩ := bits_lt (z / 8) 2 3 3 rfl (by decide) (by decide)
        have hfr0 := HP.out.iw.p0
        have hfr1 := HP.out.iw.p1
        have hfr4 := HP.out.iw.p4
        go_wp2_with fail
        go_region
        go_upto_if 71 with fail
        go_cut [12] from 66 to 66 (fun s12 wx => ∃ (k : Int) (wr' : World), wr' = wx ∧ s12 = .int .i64 k ∧ Wf k ∧ Aside0 (PlI w B3 (B3 + 1) (B3 + 1 + 1) (mh + 1) bw mw bv mv mh a2 i ds sw sv wr'))
        case first =>
          by_cases h4 : Q4 = 0
          · subst h4
            have hdd2 : wr.drew.drew.cell? (x.add i) = some (.int .i64 z) := hd
            have hi6 : i < 1000000 := by omega
            clear hK7 hb7
            go_wp2_with fail
            go_region_held3 (fun w' => w'.cell? (x.add i) = some (.int .i64 z)) (go_keep) ((go_at_call 29; refine (whole29 B3 (mh + 1) mh i sw _ HP.out.drew.drew.b3 HP.out.drew.drew.b9 HP.out.drew.drew.hm HP.out.iw hi6).mono ?_; rintro e w' ⟨rfl, rfl⟩))
            go_wp2_with fail
            go_meet
            have hwk : IntKind.i64.wrap (sw.wh + (R2 : Int)) = sw.wh + (R2 : Int) := by rw [IntKind.wrap_i64]; omega
            exact ⟨sw.wh + (R2 : Int), _, rfl, by rw [hwk], ⟨by omega, by omega⟩, ⟨HP.out.drew.drew⟩⟩
          · have h4' : ((Q4 : Int) == 0) = false := by simp; omega
            go_wp2_with fail
            go_meet
            exact ⟨sw.fr + (K7 : Int) - 20, _, rfl, rfl, ⟨by omega, by omega⟩, ⟨HP.out.drew⟩⟩
        case rest =>
          clear HP hd hb3 hdd hb3d
          obtain ⟨k, wr', hwx, rfl, hkw, HP⟩ := hcut
          subst hwx
          have hd : wr'.cell? (x.add i) = some (.int .i64 z) := (HP.out.bel.cell (World.block_lt_of_cell? w _ HZ.out)).trans HZ.out
          obtain ⟨T3, hbt, hT3⟩ := bits_lt z 2 3 3 rfl (by decide) (by decide)
          clear hfr0 hfr1 hfr4
          go_upto_block 2 with fail
          go_cut [] from 86 to 86 (fun wx => ∃ (sw' sv' : Wd) (wr2 : World), wr2 = wx ∧ Aside0 (PlI w B3 (B3 + 1) (B3 + 1 + 1) (mh + 1) bw mw bv mv mh a2 (i + 1) ds sw' sv' wr2))
          case first =>
            refine wp_block ?_
            refine wp_seq_k (fun K0 hK0 => ?_)
            go_cut [113] from 114 to 114 (fun s113 wx => Aside0 (wr' = wx) ∧ s113 = .bool (decide (T3 < 3)))
            case first =>
              have c4 : T3 = 0 ∨ T3 = 1 ∨ T3 = 2 ∨ T3 = 3 := by omega
              rcases c4 with rfl | rfl | rfl | rfl
              all_goals
                go_wp2_with fail
                go_meet
                exact ⟨⟨rfl⟩, rfl⟩
            case rest =>
              obtain ⟨⟨rfl⟩, rfl⟩ := hcut
              by_cases hT : T3 < 3
              · have hTd : decide (T3 < 3) = true := decide_eq_true hT
                rw [hTd]
                clear hTd hT
                have HOo : Ord B3 bw mw bv mv mh := HO.out
                have hwB : w.heap.size ≤ B3 := by rw [HB3.out]; exact Nat.le_refl _
                have hc3 := HP.out.b3.cell
                have hc9 := HP.out.b9.cell
                have hl := HP.out.hm.look Try.underlying49 (Try.zeroValue3 wr') hkw
                obtain ⟨y, hy⟩ : ∃ y, y = (sw.f k).getD (.int .i64 0) := ⟨_, rfl⟩
                rw [← hy] at hl
                have HY := Aside0.mk hy
                clear hy
                have hi6 : i < 1000000 := by omega
                have hw8 : IntKind.u8.wrap (i : Int) = (i : Int) := by rw [IntKind.wrap_u8]; omega
                have hp4 := HP.out.iw.p4
                have hp1 := HP.out.iw.p1
                have hp0 := HP.out.iw.p0
                have hw64 : IntKind.i64.wrap (sw.wh + 64) = sw.wh + 64 := by rw [IntKind.wrap_i64]; omega
                by_cases g1 : sw.fr < k
                · by_cases g2 : k ≤ sw.wh + 64
                  · cases g3 : (sw.f k).isSome with
                    | true =>
                      rw [g3] at hl
                      have HG := Aside0.mk (And.intro g1 (And.intro g2 g3))
                      clear g3
                      go_wp2_with fail
                      refine (whole29 B3 (mh + 1) mh i sw wr' HP.out.b3 HP.out.b9 HP.out.hm HP.out.iw hi6).mono ?_
                      rintro e w5 ⟨rfl, rfl⟩
                      go_wp2_with fail
                      refine (put9 bw mw i sw k (.int .i64 (i : Int)) w5 HP.out.hw HP.out.iw hi6 hkw).mono ?_
                      rintro e u1 ⟨r, sw1, rfl, hp, hw1, hi1, ht1⟩
                      obtain rfl : r = false := by rw [hp.an]; rw [HG.out.2.2]; simp
                      have H1 := Aside0.mk (And.intro hp (And.intro hw1 (And.intro hi1 ht1)))
                      clear hp hw1 hi1 ht1
                      go_wp2_with fail
                      obtain ⟨u2, hu2⟩ : ∃ u2, u1.alloc (.cells #[.int .u8 (i : Int)] 5) = u2 := ⟨_, rfl⟩
                      obtain ⟨gg, hgg⟩ : ∃ gg, gg = u1.heap.size := ⟨_, rfl⟩
                      have hb12 : Below u1.heap.size u1 u2 := by rw [← hu2]; exact (Below.refl _ u1).alloc (Nat.le_refl _) _
                      have hg2 : u2.heap[gg]? = some (Obj.cells #[.int .u8 (i : Int)] 5 (0, 0)) := by rw [← hu2, hgg]; exact World.alloc_heap_new u1 _
                      rw [hu2, ← hgg]
                      have hv2 : Wn 74 u2 bv mv i sv := by
                        have q1 := HP.out.hv
                        have o := HO.out
                        exact (q1.keep (H1.out.2.2.2.block bv q1.blt (by omega) (by omega)) (H1.out.2.2.2.block mv q1.mlt (by omega) (by omega))).below hb12 (Nat.lt_of_lt_of_le q1.blt H1.out.2.2.2.size) (Nat.lt_of_lt_of_le q1.mlt H1.out.2.2.2.size)
                      have H2 := Aside0.mk (And.intro hb12 (And.intro hg2 (And.intro hv2 hgg)))
                      clear hb12 hg2 hv2 hgg hu2
                      refine (put30 bv mv i sv k (.slice (some ⟨gg, 0, none⟩) 1 1) u2 H2.out.2.2.1 HP.out.iv hi6 hkw).mono ?_
                      rintro e u3 ⟨r, sv1, rfl, hp, hv3, hi3, ht3⟩
                      obtain rfl : r = false := by rw [hp.an, HP.out.lk.isS k, HP.out.lk.fr, HP.out.lk.wh HP.out.iw HP.out.iv]; rw [HG.out.2.2]; simp
                      have H3 := Aside0.mk (And.intro hp (And.intro hi3 (plb_two HP.out HOo hwB H1.out.2.2.2 H1.out.2.1 H2.out.1 ht3 hv3)))
                      clear hp hv3 hi3 ht3
                      obtain rfl : sw1 = sw := H1.out.1.no rfl
                      obtain rfl : sv1 = sv := H3.out.1.no rfl
                      go_wp2_with fail
                      go_meet
                      exact ⟨_, _, _, rfl, ⟨pli_stay HP.out H3.out.2.2.1 H3.out.2.2.2.1 H3.out.2.2.2.2.1⟩⟩
                    | false =>
                      rw [g3] at hl
                      have HG := Aside0.mk (And.intro g1 (And.intro g2 g3))
                      clear g3
                      go_wp2_with fail
                      refine (whole29 B3 (mh + 1) mh i sw wr' HP.out.b3 HP.out.b9 HP.out.hm HP.out.iw hi6).mono ?_
                      rintro e w5 ⟨rfl, rfl⟩
                      go_wp2_with fail
                      refine (put9 bw mw i sw k (.int .i64 (i : Int)) w5 HP.out.hw HP.out.iw hi6 hkw).mono ?_
                      rintro e u1 ⟨r, sw1, rfl, hp, hw1, hi1, ht1⟩
                      obtain rfl : r = true := by rw [hp.an]; rw [HG.out.2.2, decide_eq_true HG.out.1, decide_eq_true HG.out.2.1]; rfl
                      have H1 := Aside0.mk (And.intro hp (And.intro hw1 (And.intro hi1 ht1)))
                      clear hp hw1 hi1 ht1
                      go_wp2_with fail
                      obtain ⟨u2, hu2⟩ : ∃ u2, u1.alloc (.cells #[.int .u8 (i : Int)] 5) = u2 := ⟨_, rfl⟩
                      obtain ⟨gg, hgg⟩ : ∃ gg, gg = u1.heap.size := ⟨_, rfl⟩
                      have hb12 : Below u1.heap.size u1 u2 := by rw [← hu2]; exact (Below.refl _ u1).alloc (Nat.le_refl _) _
                      have hg2 : u2.heap[gg]? = some (Obj.cells #[.int .u8 (i : Int)] 5 (0, 0)) := by rw [← hu2, hgg]; exact World.alloc_heap_new u1 _
                      rw [hu2, ← hgg]
                      have hv2 : Wn 74 u2 bv mv i sv := by
                        have q1 := HP.out.hv
                        have o := HO.out
                        exact (q1.keep (H1.out.2.2.2.block bv q1.blt (by omega) (by omega)) (H1.out.2.2.2.block mv q1.mlt (by omega) (by omega))).below hb12 (Nat.lt_of_lt_of_le q1.blt H1.out.2.2.2.size) (Nat.lt_of_lt_of_le q1.mlt H1.out.2.2.2.size)
                      have H2 := Aside0.mk (And.intro hb12 (And.intro hg2 (And.intro hv2 hgg)))
                      clear hb12 hg2 hv2 hgg hu2
                      refine (put30 bv mv i sv k (.slice (some ⟨gg, 0, none⟩) 1 1) u2 H2.out.2.2.1 HP.out.iv hi6 hkw).mono ?_
                      rintro e u3 ⟨r, sv1, rfl, hp, hv3, hi3, ht3⟩
                      obtain rfl : r = true := by rw [hp.an, HP.out.lk.isS k, HP.out.lk.fr, HP.out.lk.wh HP.out.iw HP.out.iv]; rw [HG.out.2.2, decide_eq_true HG.out.1, decide_eq_true HG.out.2.1]; rfl
                      have H3 := Aside0.mk (And.intro hp (And.intro hi3 (plb_two HP.out HOo hwB H1.out.2.2.2 H1.out.2.1 H2.out.1 ht3 hv3)))
                      clear hp hv3 hi3 ht3
                      have hg5 := H3.out.2.2.2.2.2 gg _ (by rw [H2.out.2.2.2]; exact Nat.le_refl _) H2.out.2.1
                      have hc9' := H3.out.2.2.1.b9.cell
                      obtain ⟨u4, hrun, hm4, ht4⟩ := H3.out.2.2.2.1.put Try.underlying49 (by simp [maxLen]; omega) hkw (.int .i64 (i : Int))
                      have H4 := Aside0.mk (And.intro hm4 (And.intro ht4 hg5))
                      clear hm4 ht4 hg5
                      go_wp2_with fail
                      go_meet
                      exact ⟨_, _, _, rfl, ⟨pli_put HP.out HOo hwB H3.out.2.2.1 H3.out.2.2.2.2.1 (by omega) H4.out.2.2 H1.out.1 H1.out.2.2.1 H3.out.1 H3.out.2.1 H4.out.2.1 H4.out.1⟩⟩
                  · have g2' : sw.wh + 64 < k := by omega
                    go_wp2_with fail
                    refine (whole29 B3 (mh + 1) mh i sw wr' HP.out.b3 HP.out.b9 HP.out.hm HP.out.iw hi6).mono ?_
                    rintro e w5 ⟨rfl, rfl⟩
                    go_wp2_with fail
                    refine (put9 bw mw i sw k (.int .i64 (i : Int)) w5 HP.out.hw HP.out.iw hi6 hkw).mono ?_
                    rintro e u1 ⟨r, sw1, rfl, hp, hw1, hi1, ht1⟩
                    obtain rfl : r = false := by rw [hp.an]; rw [decide_eq_false (show ¬ (k ≤ sw.wh + 64) by omega)]; simp
                    have H1 := Aside0.mk (And.intro hp (And.intro hw1 (And.intro hi1 ht1)))
                    clear hp hw1 hi1 ht1
                    go_wp2_with fail
                    obtain ⟨u2, hu2⟩ : ∃ u2, u1.alloc (.cells #[.int .u8 (i : Int)] 5) = u2 := ⟨_, rfl⟩
                    obtain ⟨gg, hgg⟩ : ∃ gg, gg = u1.heap.size := ⟨_, rfl⟩
                    have hb12 : Below u1.heap.size u1 u2 := by rw [← hu2]; exact (Below.refl _ u1).alloc (Nat.le_refl _) _
                    have hg2 : u2.heap[gg]? = some (Obj.cells #[.int .u8 (i : Int)] 5 (0, 0)) := by rw [← hu2, hgg]; exact World.alloc_heap_new u1 _
                    rw [hu2, ← hgg]
                    have hv2 : Wn 74 u2 bv mv i sv := by
                      have q1 := HP.out.hv
                      have o := HO.out
                      exact (q1.keep (H1.out.2.2.2.block bv q1.blt (by omega) (by omega)) (H1.out.2.2.2.block mv q1.mlt (by omega) (by omega))).below hb12 (Nat.lt_of_lt_of_le q1.blt H1.out.2.2.2.size) (Nat.lt_of_lt_of_le q1.mlt H1.out.2.2.2.size)
                    have H2 := Aside0.mk (And.intro hb12 (And.intro hg2 (And.intro hv2 hgg)))
                    clear hb12 hg2 hv2 hgg hu2
                    refine (put30 bv mv i sv k (.slice (some ⟨gg, 0, none⟩) 1 1) u2 H2.out.2.2.1 HP.out.iv hi6 hkw).mono ?_
                    rintro e u3 ⟨r, sv1, rfl, hp, hv3, hi3, ht3⟩
                    obtain rfl : r = false := by rw [hp.an, HP.out.lk.isS k, HP.out.lk.fr, HP.out.lk.wh HP.out.iw HP.out.iv]; rw [decide_eq_false (show ¬ (k ≤ sw.wh + 64) by omega)]; simp
                    have H3 := Aside0.mk (And.intro hp (And.intro hi3 (plb_two HP.out HOo hwB H1.out.2.2.2 H1.out.2.1 H2.out.1 ht3 hv3)))
                    clear hp hv3 hi3 ht3
                    obtain rfl : sw1 = sw := H1.out.1.no rfl
                    obtain rfl : sv1 = sv := H3.out.1.no rfl
                    go_wp2_with fail
                    go_meet
                    exact ⟨_, _, _, rfl, ⟨pli_stay HP.out H3.out.2.2.1 H3.out.2.2.2.1 H3.out.2.2.2.2.1⟩⟩
                · have g1' : k ≤ sw.fr := by omega
                  go_wp2_with fail
                  refine (put9 bw mw i sw k (.int .i64 (i : Int)) wr' HP.out.hw HP.out.iw hi6 hkw).mono ?_
                  rintro e u1 ⟨r, sw1, rfl, hp, hw1, hi1, ht1⟩
                  obtain rfl : r = false := by rw [hp.an]; rw [decide_eq_false (show ¬ (sw.fr < k) by omega)]; simp
                  have H1 := Aside0.mk (And.intro hp (And.intro hw1 (And.intro hi1 ht1)))
                  clear hp hw1 hi1 ht1
                  go_wp2_with fail
                  obtain ⟨u2, hu2⟩ : ∃ u2, u1.alloc (.cells #[.int .u8 (i : Int)] 5) = u2 := ⟨_, rfl⟩
                  obtain ⟨gg, hgg⟩ : ∃ gg, gg = u1.heap.size := ⟨_, rfl⟩
                  have hb12 : Below u1.heap.size u1 u2 := by rw [← hu2]; exact (Below.refl _ u1).alloc (Nat.le_refl _) _
                  have hg2 : u2.heap[gg]? = some (Obj.cells #[.int .u8 (i : Int)] 5 (0, 0)) := by rw [← hu2, hgg]; exact World.alloc_heap_new u1 _
                  rw [hu2, ← hgg]
                  have hv2 : Wn 74 u2 bv mv i sv := by
                    have q1 := HP.out.hv
                    have o := HO.out
                    exact (q1.keep (H1.out.2.2.2.block bv q1.blt (by omega) (by omega)) (H1.out.2.2.2.block mv q1.mlt (by omega) (by omega))).below hb12 (Nat.lt_of_lt_of_le q1.blt H1.out.2.2.2.size) (Nat.lt_of_lt_of_le q1.mlt H1.out.2.2.2.size)
                  have H2 := Aside0.mk (And.intro hb12 (And.intro hg2 (And.intro hv2 hgg)))
                  clear hb12 hg2 hv2 hgg hu2
                  refine (put30 bv mv i sv k (.slice (some ⟨gg, 0, none⟩) 1 1) u2 H2.out.2.2.1 HP.out.iv hi6 hkw).mono ?_
                  rintro e u3 ⟨r, sv1, rfl, hp, hv3, hi3, ht3⟩
                  obtain rfl : r = false := by rw [hp.an, HP.out.lk.isS k, HP.out.lk.fr, HP.out.lk.wh HP.out.iw HP.out.iv]; rw [decide_eq_false (show ¬ (sw.fr < k) by omega)]; simp
                  have H3 := Aside0.mk (And.intro hp (And.intro hi3 (plb_two HP.out HOo hwB H1.out.2.2.2 H1.out.2.1 H2.out.1 ht3 hv3)))
                  clear hp hv3 hi3 ht3
                  obtain rfl : sw1 = sw := H1.out.1.no rfl
                  obtain rfl : sv1 = sv := H3.out.1.no rfl
                  go_wp2_with fail
                  go_meet
                  exact ⟨_, _, _, rfl, ⟨pli_stay HP.out H3.out.2.2.1 H3.out.2.2.2.1 H3.out.2.2.2.2.1⟩⟩
              · have hTd : decide (T3 < 3) = false := decide_eq_false hT
                rw [hTd]
                clear hTd hT
                have HOo : Ord B3 bw mw bv mv mh := HO.out
                have hwB : w.heap.size ≤ B3 := by rw [HB3.out]; exact Nat.le_refl _
                have hi6 : i < 1000000 := by omega
                go_wp2_with fail
                refine (cut31 bw mw i sw k wr' HP.out.hw HP.out.iw hi6).mono ?_
                rintro e u1 ⟨sw1, rfl, hp, hw1, hi1, ht1⟩
                have H1 := Aside0.mk (And.intro hp (And.intro hw1 (And.intro hi1 ht1)))
                clear hp hw1 hi1 ht1
                go_wp2_with fail
                have hv2 : Wn 74 u1 bv mv i sv := by
                  have q1 := HP.out.hv
                  have o := HO.out
                  exact q1.keep (H1.out.2.2.2.block bv q1.blt (by omega) (by omega)) (H1.out.2.2.2.block mv q1.mlt (by omega) (by omega))
                refine (cut32 bv mv i sv k u1 hv2 HP.out.iv hi6).mono ?_
                rintro e u3 ⟨sv1, rfl, hp, hv3, hi3, ht3⟩
                have H3 := Aside0.mk (And.intro hp (And.intro hi3 (plb_two HP.out HOo hwB H1.out.2.2.2 (H1.out.2.1.mono (by omega)) (Below.refl _ _) ht3 (hv3.mono (by omega)))))
                clear hp hv3 hi3 ht3 hv2
                have hc3 := H3.out.2.2.1.b3.cell
                have hf3 := H3.out.2.2.1.b3.frozen
                have hc9 := H3.out.2.2.1.b9.cell
                by_cases g1 : sw.fr < k
                · by_cases g2 : k ≤ sw.wh
                  · go_wp2_with fail
                    refine (whole29 B3 (mh + 1) mh i sw u3 H3.out.2.2.1.b3 H3.out.2.2.1.b9 H3.out.2.2.2.1 HP.out.iw hi6).mono ?_
                    rintro e w5 ⟨rfl, rfl⟩
                    have o_ := HO.out
                    have hm4 : Mf (w5.setCell ⟨B3, 0, none⟩ (.int .i64 k)) mh i sw.f := H3.out.2.2.2.1.of_block (Below.heap_setCell _ _ _ _ (by show mh ≠ B3; omega))
                    have hx9 : (w5.setCell ⟨B3, 0, none⟩ (.int .i64 k)).cell? ⟨mh + 1, 0, none⟩ = some (.map (some mh)) := (Boxed.other H3.out.2.2.1.b9 (by omega) _).cell
                    have HP4 : Aside0 (PlB w B3 bw mw bv mv mh k a2 (i + 1) ds sw1 sv1 (w5.setCell ⟨B3, 0, none⟩ (.int .i64 k)) ∧ (∀ (g : Nat) (x : Array Value), wr'.heap[g]? = some (Obj.cells x 5 (0, 0)) → (w5.setCell ⟨B3, 0, none⟩ (.int .i64 k)).heap[g]? = some (Obj.cells x 5 (0, 0)))) := ⟨plb_store H3.out.2.2.1 HOo hwB k, fun g x hg => (Below.heap_setCell _ _ _ _ (fun e => by have q := H3.out.2.2.2.2.1 g x hg; rw [show g = B3 from e] at q; have := (show w5.heap[B3]? = _ from H3.out.2.2.1.b3).symm.trans q; simp at this)).trans (H3.out.2.2.2.2.1 g x hg)⟩
                    have hmm3 : ∃ es c, (w5.setCell ⟨B3, 0, none⟩ (.int .i64 k)).heap[mh]? = some (.map es c) := by
                      obtain ⟨D, ⟨es, c, hb, _⟩, _⟩ := hm4
                      exact ⟨es, c, hb⟩
                    have HM3 := Aside0.mk hmm3
                    obtain ⟨D0, hown, hD0⟩ := hm4
                    have HD0 := Aside0.mk hD0
                    clear hD0 hmm3 o_
                    go_wp2_with (at_range; refine wpList_range_own _ rfl _ 49 rfl 3 3 law3 Try.underlying49 RV mh i D0 rfl hown ?_; intro w6 hrg hgr hsz6)
                    go_frame
                    obtain ⟨u4, hu4⟩ : ∃ u4, w5.setCell ⟨B3, 0, none⟩ (.int .i64 k) = u4 := ⟨_, rfl⟩
                    obtain ⟨r, hr⟩ : ∃ r, r = w5.heap.size := ⟨_, rfl⟩
                    have hru : u4.heap.size = r := by rw [← hu4, hr]; simp
                    rw [hu4] at HP4 HM3 hown hrg hgr hsz6
                    rw [hru] at hrg
                    rw [hu4]
                    rw [hru]
                    have hT6 : Tn mh mh u4 w6 := ⟨hgr.os, hgr.tape, hgr.output, hgr.size, fun j hj _ _ => hgr.block j hj (by simp)⟩
                    have HR0 := Aside0.mk (And.intro hrg (And.intro (dl_start (k := k) HD0.out) hT6))
                    have HRU := Aside0.mk hru
                    clear hrg hgr hsz6 hT6 hown hx9 hc3 hf3 hc9 hu4 hr hru
                    go_loopw [16] (fun _ wr => ∃ (D' : DataW Value) (left : Lit → Bool) (cnt : Nat), Aside0 (wr.ranges Try.prog 3 RV mh r i D' left cnt) ∧ Aside0 (Dl sw.f k D' left) ∧ Aside0 (Tn mh mh u4 wr)) (fun _ wr => wr.rangeLeft mh r)
                    case atStart => exact ⟨_, _, _, ⟨HR0.out.1⟩, ⟨HR0.out.2.1⟩, ⟨HR0.out.2.2⟩⟩
                    case round =>
                      clear HR0
                      obtain ⟨D', left, cnt, HRG, HDL, HTn⟩ := hrel
                      have hrg := HRG.out
                      have oo := HO.out
                      have hc3 := (show Boxed wr B3 3 _ from (HTn.out.block B3 HP4.out.1.b3.lt (by omega) (by omega)).trans HP4.out.1.b3).cell
                      have hc9 := (show Boxed wr (mh + 1) 49 _ from (HTn.out.block (mh + 1) HP4.out.1.b9.lt (by omega) (by omega)).trans HP4.out.1.b9).cell
                      clear oo
                      go_wp2_with (at_next; refine wpList_next_ranges _ rfl _ rfl 3 law3 RV (Value.int .i64) id (fun key kl hk => by obtain ⟨x, hx, _⟩ := Maps.keyOf_int_inv Try.underlying3 hk; exact ⟨x, hx⟩) (fun v y hv => ⟨v, rfl⟩) mh r i D' left cnt rfl hrg ?_ ?_)
                      · intro hc0 hl0
                        have hMf : Mf wr mh i (fun j => if j ≤ k then none else sw.f j) := ⟨D', hrg.owns, fun j hj => dl_end HDL.out hl0 j hj⟩
                        have HMf := Aside0.mk hMf
                        clear hMf hc0
                        go_wp2_with fail
                        go_meet
                        exact ⟨_, _, _, rfl, ⟨pli_cut HP.out HOo hwB HP4.out.1 HP4.out.2 H1.out.1 H1.out.2.2.1 H3.out.1 H3.out.2.1 g1 g2 (by rw [HP.out.lk.fr]; exact g1) (by rw [HP.out.lk.wh HP.out.iw HP.out.iv]; exact g2) (fun j hj hne => HTn.out.block j hj hne hne) ⟨HTn.out.os, HTn.out.tape, HTn.out.output, HTn.out.size⟩ HM3.out HMf.out⟩⟩
                      · intro xk c kl yd yp w7 cnt2 hkey hlk hv hat hrg2 hltc hgr2 hsz2 hen
                        obtain ⟨x', ex, rfl, hxw⟩ := Maps.keyOf_int_inv Try.underlying3 hkey
                        cases ex
                        have hxf : Wf xk := wf_inv0 hxw
                        have hrl : r < u4.heap.size → False := fun h => by have := HRU.out; omega
                        have hT7 : Tn mh mh u4 w7 := HTn.out.trans' hgr2 (by have := HRU.out; omega)
                        have hc3' := (show Boxed w7 B3 3 _ from (hT7.block B3 HP4.out.1.b3.lt (by have := HO.out; omega) (by have := HO.out; omega)).trans HP4.out.1.b3).cell
                        have hc9' := (show Boxed w7 (mh + 1) 49 _ from (hT7.block (mh + 1) HP4.out.1.b9.lt (by omega) (by omega)).trans HP4.out.1.b9).cell
                        have HXX := Aside0.mk (And.intro hT7 (And.intro hltc hrg.left_eq))
                        clear hT7 hltc hc3 hc9 hrl hgr2 hsz2 hv hat hlk hkey
                        by_cases hxk : xk ≤ k
                        · go_wp2_with (at_delete; refine wpList_delete_ranges _ rfl _ _ 49 3 rfl 3 law3 Try.underlying49 RV mh r i D' _ cnt2 rfl hrg2 _ _ rfl (key3 hxf) ?_; intro w8 cnt3 hrg3 hle3 ht3)
                          go_roundw
                          case rel =>
                            (repeat apply Exists.intro)
                            exact ⟨⟨_, _, _, ⟨hrg3⟩, ⟨dl_del HDL.out hxk⟩, ⟨HXX.out.1.trans (Tn.of_turned ht3)⟩⟩, rfl⟩
                          case measure => rw [hrg3.left_eq, HXX.out.2.2]; have := HXX.out.2.1; omega
                        · have hxk' : k < xk := by omega
                          go_wp2_with fail
                          go_roundw
                          case rel => exact ⟨_, _, _, ⟨hrg2⟩, ⟨dl_skip HDL.out hxk'⟩, ⟨HXX.out.1⟩⟩
                          case measure => rw [hrg2.left_eq, HXX.out.2.2]; exact HXX.out.2.1
                  · have g2' : sw.wh < k := by omega
                    go_wp2_with fail
                    refine (whole29 B3 (mh + 1) mh i sw u3 H3.out.2.2.1.b3 H3.out.2.2.1.b9 H3.out.2.2.2.1 HP.out.iw hi6).mono ?_
                    rintro e w5 ⟨rfl, rfl⟩
                    obtain rfl : sw1 = sw := cut_same H1.out.1 HP.out.iw (by omega)
                    obtain rfl : sv1 = sv := cut_same H3.out.1 HP.out.iv (by rw [HP.out.lk.fr, HP.out.lk.wh HP.out.iw HP.out.iv]; omega)
                    go_wp2_with fail
                    go_meet
                    exact ⟨_, _, _, rfl, ⟨pli_stay HP.out H3.out.2.2.1 H3.out.2.2.2.1 H3.out.2.2.2.2.1⟩⟩
                · have g1' : k ≤ sw.fr := by omega
                  obtain rfl : sw1 = sw := cut_same H1.out.1 HP.out.iw (by omega)
                  obtain rfl : sv1 = sv := cut_same H3.out.1 HP.out.iv (by rw [HP.out.lk.fr, HP.out.lk.wh HP.out.iw HP.out.iv]; omega)
                  go_wp2_with fail
                  go_meet
                  exact ⟨_, _, _, rfl, ⟨pli_stay HP.out H3.out.2.2.1 H3.out.2.2.2.1 H3.out.2.2.2.2.1⟩⟩
          case rest =>
            clear HP hd
            obtain ⟨sw', sv', wr2, hwx, HP⟩ := hcut
            subst hwx
            have hd : wr2.cell? (x.add i) = some (.int .i64 z) := (HP.out.bel.cell (World.block_lt_of_cell? w _ HZ.out)).trans HZ.out
            have hc3 := HP.out.b3.cell
            have hc9 := HP.out.b9.cell
            have hl := HP.out.hm.look Try.underlying49 (Try.zeroValue3 wr2) hkw
            go_wp2_with fail
            have hgw := get33 bw mw (i + 1) sw' k wr2 HP.out.hw hkw
            refine hgw.mono ?_
            clear hgw
            rintro e w5 ⟨rfl, rfl⟩
            go_wp2_with fail
            have hgv := get34 bv mv (i + 1) sv' k w5 HP.out.hv hkw
            refine hgv.mono ?_
            clear hgv
            rintro e w6 ⟨rfl, rfl⟩
            obtain ⟨D0, hown, hD0⟩ := HP.out.hm
            have HD0 := Aside0.mk hD0
            clear hD0
            go_wp2_with (at_range; refine wpList_range_own _ rfl _ 49 rfl 3 3 law3 Try.underlying49 RV mh (i + 1) D0 rfl hown ?_; intro w7 hrg hgr hsz6)
            go_frame
            obtain ⟨r, hr⟩ : ∃ r, r = w6.heap.size := ⟨_, rfl⟩
            rw [← hr] at hrg ⊢
            have hb7 : Below w6.heap.size w6 w7 := (Below.refl _ _).grown hgr (Nat.le_refl _) (fun _ e => by cases e)
            have HR0 := Aside0.mk (And.intro hrg (And.intro hb7 (tp_start HD0.out)))
            have HRU := Aside0.mk hr
            clear hrg hgr hsz6 hb7 hown hr hc3 hc9 hl
            go_loopw [23, 26] (fun v23 _ wr => ∃ (tt : Int) (left : Lit → Bool) (cnt : Nat), v23 = .int .i64 tt ∧ Aside0 (Tp sw' tt left) ∧ Aside0 (wr.ranges Try.prog 3 RV mh r (i + 1) D0 left cnt) ∧ Aside0 (Below w6.heap.size w6 wr)) (fun _ _ wr => wr.rangeLeft mh r)
            case atStart => exact ⟨_, _, _, rfl, ⟨HR0.out.2.2⟩, ⟨HR0.out.1⟩, ⟨HR0.out.2.1⟩⟩
            case round =>
              clear HR0
              obtain ⟨tt, left, cnt, rfl, HTP, HRG, HB7⟩ := hrel
              have hrg := HRG.out
              go_wp2_with (at_next; refine wpList_next_ranges _ rfl _ rfl 3 law3 RV (Value.int .i64) id (fun key kl hk => by obtain ⟨x, hx, _⟩ := Maps.keyOf_int_inv Try.underlying3 hk; exact ⟨x, hx⟩) (fun v y hv => ⟨v, rfl⟩) mh r (i + 1) D0 left cnt rfl hrg ?_ ?_)
              · intro hc0 hl0
                have htt : tt = sw'.tp := tp_end HP.out.iw (by omega) HTP.out hl0
                have HTT := Aside0.mk htt
                rw [htt]
                have hb3 := (show Boxed wr B3 3 _ from (HB7.out.block B3 HP.out.b3.lt).trans HP.out.b3).cell
                clear hc0 htt hrg
                have hfp := HP.out.iw.p0
                have hf1 := HP.out.iw.p1
                have hf2 := HP.out.iw.p2
                have hf3 := HP.out.iw.p3
                have hf4 := HP.out.iw.p4
                have hwf : IntKind.i64.wrap (sw'.fr + 1) = sw'.fr + 1 := by rw [IntKind.wrap_i64]; omega
                obtain ⟨wb, hwb⟩ : ∃ wb, wb = wr := ⟨_, rfl⟩
                rw [← hwb] at HB7 HRG hb3 ⊢
                clear hwb
                go_wp2_with fail
                clear hb3 hwf
                obtain ⟨M, hbM, hM⟩ := bits_lt (z / 1024) 3 7 7 rfl (by decide) (by decide)
                have hNN : ((allN sw' : Nat) : Int) = sw'.tp - sw'.fr := by unfold allN; omega
                have HNN := Aside0.mk hNN
                have hNb : allN sw' < 4398046511104 := by omega
                clear hNN
                have HPb := Aside0.mk (HP.out.below HB7.out)
                have hdb : wb.cell? (x.add i) = some (.int .i64 z) := (HB7.out.cell (World.block_lt_of_cell? w6 _ hd)).trans hd
                have HDB := Aside0.mk hdb
                clear hdb
                go_loopw [24, 25, 27, 28, 29] (fun v24 v25 v27 _ _ wr => ∃ (p n1 c1 n2 c2 : Nat) (A1 A2 : Option Addr), v27 = .int .i64 (sw'.fr + 1 + (p : Int)) ∧ v24 = .slice A1 n1 c1 ∧ v25 = .slice A2 n2 c2 ∧ p ≤ allN sw' ∧ n1 ≤ p ∧ n2 ≤ M ∧ Aside0 (Rw2 wr wb.heap.size A1 n1 c1 (keysTo sw' p) A2 n2 c2 ((holesTo sw' p).take M)) ∧ Aside0 (n1 = (keysTo sw' p).length ∧ n2 = ((holesTo sw' p).take M).length) ∧ Aside0 (Below wb.heap.size wb wr)) (fun _ _ v27 _ _ _ => (sw'.tp + 1 - intOf v27).toNat)
                case atStart => exact ⟨0, 0, 0, 0, 0, none, none, by simp, rfl, rfl, Nat.zero_le _, Nat.le_refl _, Nat.zero_le _, ⟨by simpa [keysTo, holesTo] using Rw2.start wb wb.heap.size⟩, ⟨by simp [keysTo, holesTo]⟩, ⟨Below.refl _ _⟩⟩
                case round =>
                  obtain ⟨p, n1, c1, n2, c2, A1, A2, rfl, rfl, rfl, hpN, hn1, hn2, HRW, HLN, HBB⟩ := hrel
                  have hNN := HNN.out
                  by_cases hlt : p < allN sw'
                  · have hle : sw'.fr + 1 + (p : Int) ≤ sw'.tp := by omega
                    have hpw : Wf (sw'.fr + 1 + (p : Int)) := ⟨by omega, by omega⟩
                    have hPr := HPb.out.below HBB.out
                    have hc9 := hPr.b9.cell
                    have hl := hPr.hm.look Try.underlying49 (Try.zeroValue3 wr) hpw
                    have hdr := (HBB.out.cell (World.block_lt_of_cell? wb _ HDB.out)).trans HDB.out
                    have hwn : IntKind.i64.wrap (sw'.fr + 1 + (p : Int) + 1) = sw'.fr + 1 + (p : Int) + 1 := by rw [IntKind.wrap_i64]; omega
                    have hbs := HBB.out.size
                    have hn1b : n1 < 4398046511104 := by omega
                    have hn2b : n2 < 4398046511104 := by omega
                    obtain ⟨y, hy⟩ : ∃ y, y = (sw'.f (sw'.fr + 1 + (p : Int))).getD (.int .i64 0) := ⟨_, rfl⟩
                    rw [← hy] at hl
                    clear hy hNN hPr
                    cases hs : (sw'.f (sw'.fr + 1 + (p : Int))).isSome with
                    | true =>
                      rw [hs] at hl
                      have HS := Aside0.mk hs
                      have hrow := HRW.out.r1
                      clear hs
                      go_wp2_with (at_builtin; refine wpList_app1 rfl _ _ rfl wb.heap.size _ n1 _ rfl (row_alloc hrow _) wr.heap.size (sw'.fr + 1 + (p : Int)) rfl (World.alloc_heap_new _ _) hn1b (by simp; omega) ?_; intro g' cap' w9 hown' hgrow hlies)
                      go_roundw
                      case rel => exact ⟨p + 1, n1 + 1, cap', n2, c2, some ⟨g', 0, none⟩, A2, by push_cast; rw [show sw'.fr + 1 + ((p : Int) + 1) = sw'.fr + 1 + (p : Int) + 1 by omega], rfl, rfl, by omega, by omega, hn2, ⟨by rw [keysTo_succ, HS.out, if_pos rfl, holes_some HS.out]; exact HRW.out.grow hown' hgrow hlies⟩, ⟨by rw [keysTo_succ, HS.out, if_pos rfl, holes_some HS.out, List.length_append, ← HLN.out.1]; exact ⟨rfl, HLN.out.2⟩⟩, ⟨HRW.out.grown hgrow HBB.out hbs⟩⟩
                      case measure => simp [intOf]; omega
                    | false =>
                      rw [hs] at hl
                      have HS := Aside0.mk hs
                      have hrow := HRW.out.r2
                      clear hs
                      by_cases hnM : n2 < M
                      · go_wp2_with (at_builtin; refine wpList_app1 rfl _ _ rfl wb.heap.size _ n2 _ rfl (row_alloc hrow _) wr.heap.size (sw'.fr + 1 + (p : Int)) rfl (World.alloc_heap_new _ _) hn2b (by simp; omega) ?_; intro g' cap' w9 hown' hgrow hlies)
                        go_roundw
                        case rel => exact ⟨p + 1, n1, c1, n2 + 1, cap', A1, some ⟨g', 0, none⟩, by push_cast; rw [show sw'.fr + 1 + ((p : Int) + 1) = sw'.fr + 1 + (p : Int) + 1 by omega], rfl, rfl, by omega, by omega, by omega, ⟨by rw [keysTo_succ, HS.out]; simp only [Bool.false_eq_true, if_false, List.append_nil]; rw [(holes_take HS.out).1 (by rw [← HLN.out.2]; exact hnM)]; exact (HRW.out.swap.grow hown' hgrow hlies).swap⟩, ⟨by rw [keysTo_succ, HS.out]; simp only [Bool.false_eq_true, if_false, List.append_nil]; rw [(holes_take HS.out).1 (by rw [← HLN.out.2]; exact hnM), List.length_append, ← HLN.out.2]; exact ⟨HLN.out.1, rfl⟩⟩, ⟨HRW.out.swap.grown hgrow HBB.out hbs⟩⟩
                        case measure => simp [intOf]; omega
                      · have hnM' : M ≤ n2 := by omega
                        go_wp2_with fail
                        go_roundw
                        case rel => exact ⟨p + 1, n1, c1, n2, c2, A1, A2, by push_cast; rw [show sw'.fr + 1 + ((p : Int) + 1) = sw'.fr + 1 + (p : Int) + 1 by omega], rfl, rfl, by omega, by omega, hn2, ⟨by rw [keysTo_succ, HS.out]; simp only [Bool.false_eq_true, if_false, List.append_nil]; rw [(holes_take HS.out).2 (by rw [← HLN.out.2]; omega)]; exact HRW.out⟩, ⟨by rw [keysTo_succ, HS.out]; simp only [Bool.false_eq_true, if_false, List.append_nil]; rw [(holes_take HS.out).2 (by rw [← HLN.out.2]; omega)]; exact HLN.out⟩, HBB⟩
                        case measure => simp [intOf]; omega
                  · have hpe : p = allN sw' := by omega
                    have hgt : ¬ (sw'.fr + 1 + (p : Int) ≤ sw'.tp) := by omega
                    have HPE := Aside0.mk hpe
                    clear hpe hNN
                    go_wp2_with fail
                    have hall := callsIn_wide.1 (all35_in Fence.wide 9 trivial rfl (some ⟨bw, 0, none⟩) (wr.alloc (.cells #[.slice none 0 0] 22)))
                    refine hall.mono ?_
                    rintro e w' ⟨rfl, rfl⟩
                    clear hall
                    go_wp2_with fail
                    obtain ⟨v0, hv0⟩ : ∃ v0, ((wr.alloc (.cells #[.slice none 0 0] 22)).alloc (.cells #[.pointer (some ⟨bw, 0, none⟩)] 23)) = v0 := ⟨_, rfl⟩
                    obtain ⟨H, hH⟩ : ∃ H, H = wr.heap.size := ⟨_, rfl⟩
                    have hs0 : v0.heap.size = H + 1 + 1 := by rw [← hv0, hH]; simp
                    have bA : Boxed v0 H 22 (.slice none 0 0) := by rw [← hv0, hH]; exact (Boxed.new wr 22 _).alloc _
                    have bR : Boxed v0 (H + 1) 23 (.pointer (some ⟨bw, 0, none⟩)) := by
                      rw [← hv0, hH]
                      have := Boxed.new (wr.alloc (.cells #[.slice none 0 0] 22)) 23 (.pointer (some ⟨bw, 0, none⟩))
                      rwa [World.size_alloc] at this
                    have hbel : Below wr.heap.size wr v0 := by
                      rw [← hv0]
                      exact ((Below.refl _ wr).alloc (Nat.le_refl _) _).alloc (by simp) _
                    have hPr := HPb.out.below HBB.out
                    have HPv := Aside0.mk (hPr.below hbel)
                    have HRv := Aside0.mk (HRW.out.below hbel)
                    have hdr := (HBB.out.cell (World.block_lt_of_cell? wb _ HDB.out)).trans HDB.out
                    have HDv := Aside0.mk ((hbel.cell (World.block_lt_of_cell? wr _ hdr)).trans hdr)
                    have hbl : bw < H := by rw [hH]; exact hPr.hw.blt
                    have hml : mw < H := by rw [hH]; exact hPr.hw.mlt
                    have h9l : mh + 1 < H := by rw [hH]; exact hPr.b9.lt
                    have hvl : bv < H ∧ mv < H ∧ mh < H := by rw [hH]; exact ⟨hPr.hv.blt, hPr.hv.mlt, hPr.hm.lt⟩
                    have h3l : B3 + 1 + 1 < H := by rw [hH]; exact hPr.b6.lt
                    have hwbH : wb.heap.size ≤ H := by rw [hH]; exact HBB.out.size
                    rw [hv0, ← hH]
                    clear hv0 hPr hdr hbel
                    have HHH := Aside0.mk hH
                    clear hH
                    obtain ⟨Lv, hbL, hLv⟩ := bits_lt a2 4 15 15 rfl (by decide) (by decide)
                    obtain ⟨i0, hi, hz0, hz1, hz2⟩ := info_parts info3
                    have h1 : 1 ≤ 9 := by omega
                    have hii : i + 1 < 1000000 := by omega
                    refine (wpIn_wide (n := 9)).1 ?_
                    refine rangeFunc_brk (F := Fence.wide) rfl h1 (gf := 41) (lb := #[.pointer (some ⟨H + 1, 0, none⟩)]) rfl trivial (enters_of Try.func41 (by kernel_rfl) rfl)
                      (stops41 Fence.wide 8 trivial rfl (by omega) (H + 1) H bw mw (i + 1) sw' HP.out.iw hii hbl hml v0 (by omega) bR HPv.out.hw) kw_t (kw_b (by omega) (by omega)) (Below.refl _ _) (fun _ => rfl)
                      (fun pre X => ColI H (H + 1 + 1) v0 ky pre X ∧ pre.length ≤ Lv) (fun ps X => ColI H (H + 1 + 1) v0 ky ps X ∧ ps.length = Lv + 1)
                      (OwnFrom.and (colI_own _ _ _ _ (by omega)) (ownFrom_pure _ _)) (OwnFrom.and (colI_own _ _ _ _ (by omega)) (ownFrom_pure _ _))
                      ⟨by rw [← hs0]; exact colI_start _ _ _ _ rfl bA, Nat.zero_le _⟩ ?a1 ?assign ?body ?ends
                    case assign =>
                      intro l x W K hK
                      gi_wp2
                      exact hK
                    case body => as_aux_lemma =>
                      rintro l pre ⟨⟨j, v⟩, hx⟩ X ⟨⟨⟨u0, hv, hrow, -⟩, h0⟩, hph⟩ hlt
                      have hsz0 := hs0
                      clear hs0
                      obtain ⟨A0, cap0, rfl⟩ := slice_of_row hrow
                      obtain ⟨xx, gg, rfl, hxx, -, -⟩ := HPv.out.lk.yes j v hx
                      have hc := hv.cell
                      have hX9 := h0.2.boxed HPv.out.b9 (by omega) (by omega)
                      have hX5 := h0.2.boxed HPv.out.b5 (by omega) (by omega)
                      have hc9 := hX9.cell
                      have hc5 := hX5.cell
                      have hMX : Mf X mh (i + 1) sw'.f := HPv.out.hm.of_block (h0.2.block mh (by omega) (by omega))
                      have hjr := HP.out.iw.in3 j (by rw [show sw'.f j = _ from hx]; rfl)
                      have hjw : Wf j := ⟨by omega, by omega⟩
                      have hl1 := hMX.look1 Try.underlying49 (Try.zeroValue3 X) hjw
                      rw [show sw'.f j = _ from hx] at hl1
                      simp only [Option.getD_some] at hl1
                      obtain ⟨ln, hln⟩ : ∃ ln, ln = (ky pre).length := ⟨_, rfl⟩
                      have hln2 : ln ≤ Lv := by rw [hln, ky_len]; exact hph
                      rw [← hln] at hv hrow hc
                      have HLN2 := Aside0.mk hln
                      have H0 := Aside0.mk h0
                      have hsz := h0.1
                      clear hln h0 hX9 hX5 hMX hjr hjw hsz0
                      have hmxl : ln + 1 ≤ maxLen := by simp [maxLen]; omega
                      have hby : (ln + 1) * 8 ≤ 140737488355328 := by omega
                      have hszl : H + 1 + 1 ≤ X.heap.size + 1 := by omega
                      have hHb : H < H + 1 + 1 := by omega
                      by_cases heq : ln = Lv
                      · subst heq
                        gi_wp2_with (gi_at_builtin; refine wpListIn_append_own _ rfl _ _ 22 rfl (H + 1 + 1) 3 i0 (.int .i64 0) 1 8 Try.underlying22 hi hz0 hz1 hz2 rfl (by decide) _ _ _ rfl (hrow.alloc _) ⟨X.heap.size, 0, none⟩ 1 1 [.int .i64 j] rfl rfl (cell_one_new _ _ _) (by simp [Value.oneCell']) hmxl hby (by rw [World.size_alloc]; exact hszl) ?_; intro v' w2 hown' hgrow _; obtain ⟨g', cap', rfl⟩ := ownsRow_succ hown'; obtain ⟨q1, q2, q3, q4, q5⟩ := appended3 hv hrow hsz hHb hown' hgrow; have hc1 := q1.cell; have hf1 := q1.frozen; have hc2 := q2.cell; have hx5 := (q5.boxed (H0.out.2.boxed HPv.out.b5 (by omega) (by omega)) (by omega) (by omega)).cell; have HQ := Aside0.mk (And.intro q2 (And.intro q3 (And.intro q4 q5))); clear q2 q3 q4 q5)
                        obtain ⟨q2, q3, q4, q5⟩ := HQ.out
                        have hce := col_end (n₀ := H) (Bn := H + 1) (B' := v0.heap.size) (v := .int .i64 (xx : Int)) (hx := hx) HLN2.out (Nat.le_refl _) (by omega) (by omega) (by omega) q2 q3 q4 q5 H0.out
                        exact ⟨hce.1, ⟨hce.2.2, by rw [List.length_append]; have h5 := HLN2.out; rw [ky_len] at h5; show pre.length + 1 = ln + 1; omega⟩, rfl⟩
                      · have hd1 : ((ln : Int) == (Lv : Int)) = false := by simp; omega
                        have hd2 : ¬ ((ln : Int) = (Lv : Int)) := by omega
                        gi_wp2_with (gi_at_builtin; refine wpListIn_append_own _ rfl _ _ 22 rfl (H + 1 + 1) 3 i0 (.int .i64 0) 1 8 Try.underlying22 hi hz0 hz1 hz2 rfl (by decide) _ _ _ rfl (hrow.alloc _) ⟨X.heap.size, 0, none⟩ 1 1 [.int .i64 j] rfl rfl (cell_one_new _ _ _) (by simp [Value.oneCell']) hmxl hby (by rw [World.size_alloc]; exact hszl) ?_; intro v' w2 hown' hgrow _; obtain ⟨g', cap', rfl⟩ := ownsRow_succ hown'; obtain ⟨q1, q2, q3, q4, q5⟩ := appended3 hv hrow hsz hHb hown' hgrow; have hc1 := q1.cell; have hf1 := q1.frozen; have hc2 := q2.cell; have hx5 := (q5.boxed (H0.out.2.boxed HPv.out.b5 (by omega) (by omega)) (by omega) (by omega)).cell; have HQ := Aside0.mk (And.intro q2 (And.intro q3 (And.intro q4 q5))); clear q2 q3 q4 q5)
                        obtain ⟨q2, q3, q4, q5⟩ := HQ.out
                        have hce := col_end (n₀ := H) (Bn := H + 1) (B' := v0.heap.size) (v := .int .i64 (xx : Int)) (hx := hx) HLN2.out (Nat.le_refl _) (by omega) (by omega) (by omega) q2 q3 q4 q5 H0.out
                        exact ⟨hce.1, hce.2.1, hce.2.2, by rw [List.length_append]; have h5 := HLN2.out; rw [ky_len] at h5; show pre.length + 1 ≤ Lv; omega⟩
                    case ends =>
                      rintro D ps W hD hor hK
                      obtain ⟨u0, hv, hrow, h0, hkp⟩ : ∃ u0, Boxed W H 22 u0 ∧ W.ownsRow (H + 1 + 1) 3 1 u0 ((keysTo sw' (allN sw')).take (Lv + 1)).length (((keysTo sw' (allN sw')).take (Lv + 1)).map (Value.int .i64)) ∧ (H + 1 + 1 ≤ W.heap.size ∧ Bx (H + 1 + 1) H v0 W) ∧ True := by
                        rcases hor with ⟨rfl, ⟨⟨u0, hv, hrow, -⟩, h0⟩, hl2⟩ | ⟨hpre, ⟨⟨u0, hv, hrow, -⟩, h0⟩, hl2⟩
                        · have hlb : ky (allOf sw') = (keysTo sw' (allN sw')).take (Lv + 1) := by
                            rw [← ky_all]
                            exact (List.take_of_length_le (by rw [ky_len]; omega)).symm
                          rw [hlb] at hrow
                          exact ⟨u0, hv, hrow, h0, trivial⟩
                        · have hlb : ky ps = (keysTo sw' (allN sw')).take (Lv + 1) := by
                            rw [← ky_all]
                            obtain ⟨ts, hts⟩ := hpre
                            rw [← hts]
                            unfold ky
                            rw [List.map_append, ← hl2]
                            simp
                          rw [hlb] at hrow
                          exact ⟨u0, hv, hrow, h0, trivial⟩
                      clear hor hkp
                      have HPW := Aside0.mk (HPv.out.bx h0.2 (by omega) bA (by have := HB3.out; omega))
                      obtain ⟨A3, c3, rfl⟩ := slice_of_row hrow
                      obtain ⟨n3, hn3⟩ : ∃ n3, n3 = ((keysTo sw' (allN sw')).take (Lv + 1)).length := ⟨_, rfl⟩
                      rw [← hn3] at hv
                      have HT3 := Aside0.mk (And.intro hv (And.intro (IR.of_row hrow) hn3))
                      have HRW2 := Aside0.mk (And.intro (IR.bx (IR.of_row HRv.out.r1) h0.2 (by omega) bA (by decide)) (IR.bx (IR.of_row HRv.out.r2) h0.2 (by omega) bA (by decide)))
                      have HDD3 : Aside0 (D ∉ ds ∧ W.heap[D]? = some (.deferred (some [])) ∧ mh + 1 < D) := ⟨fun hm => by have := (Array.getElem?_eq_some_iff.1 (HPv.out.dd D hm).1).1; omega, hK, by omega⟩
                      clear hv hrow h0 hK hn3 bA bR
                      have HZd : Aside0 (W.cell? (x.add i) = some (.int .i64 z)) := ⟨(HPW.out.bel.cell (World.block_lt_of_cell? w _ HZ.out)).trans HZ.out⟩
                      obtain ⟨m3, hm3⟩ : ∃ m3 : Nat, m3 = min n1 (Lv + 1) := ⟨_, rfl⟩
                      have hmin : (if (Lv : Int) + 1 < (n1 : Int) then (Lv : Int) + 1 else (n1 : Int)) = (m3 : Int) := by split <;> omega
                      have hpe2 := HPE.out
                      have hln2 := HLN.out
                      rw [hpe2] at hln2
                      have HLL : Aside0 (n2 = ((holesTo sw' (allN sw')).take M).length ∧ missOf sw' M = (holesTo sw' (allN sw')).take M) := ⟨hln2.2, missOf_eq HPW.out.iw M⟩
                      have HRWm : Aside0 (IR W A2 ((holesTo sw' (allN sw')).take M)) := ⟨by have := HRW2.out.2; rwa [hpe2] at this⟩
                      have hk3 : m3 = ((keysTo sw' (allN sw')).take (Lv + 1)).length := by rw [hm3, List.length_take, ← hln2.1]; omega
                      have hr1 := HRv.out.r1
                      have HSH1 : Aside0 ((A1 = none ∧ n1 = 0 ∧ c1 = 0 ∧ m3 = 0) ∨ ∃ ga, A1 = some ⟨ga, 0, none⟩ ∧ m3 ≤ c1) := ⟨by
                        rcases hr1.2 with ⟨q1, q2⟩ | ⟨ga, c', cur, q1, _, _, q2, _⟩
                        · injection q1 with q3 q4 q5
                          exact .inl ⟨q3, q2, q5, by omega⟩
                        · injection q1 with q3 q4 q5
                          exact .inr ⟨ga, q3, by omega⟩⟩
                      have C12 : Aside0 (Calls Try.prog 12 #[.slice A3 n3 c3, .slice A1 m3 c1] W.drew (SameEnd W.drew true)) := ⟨by
                        have h := same12 A3 A1 c3 c1 ((keysTo sw' (allN sw')).take (Lv + 1)) ((keysTo sw' (allN sw')).take (Lv + 1)) W.drew HT3.out.2.1 (by have := HRW2.out.1; rw [hpe2] at this; exact this.take (Lv + 1)) (by rw [← hk3]; omega)
                        rw [decide_eq_true rfl] at h
                        rw [← HT3.out.2.2] at h
                        have e : n3 = m3 := by rw [HT3.out.2.2, hk3]
                        rw [e] at h ⊢
                        exact h⟩
                      have HMM : Aside0 (M ≤ 64) := ⟨by omega⟩
                      have HM3 := Aside0.mk hm3
                      have HL9 : Aside0 (((holesTo sw' (allN sw')).take M).length < 1000000000000) := ⟨by rw [List.length_take]; omega⟩
                      have HLW : Aside0 (wrap64 ((Lv : Int) + 1) = (Lv : Int) + 1 ∧ ¬ ((Lv : Int) + 1 < 0)) := ⟨lw_one hLv⟩
                      clear hpe2 hln2 hk3 hr1 hm3
                      go_frame
                      go_upto_region 58 with fail
                      obtain ⟨y1, hy1⟩ : ∃ y, y = (sw'.f k).getD (.int .i64 0) := ⟨_, rfl⟩
                      obtain ⟨y2, hy2⟩ : ∃ y, y = (sw'.f k).isSome := ⟨_, rfl⟩
                      obtain ⟨y3, hy3⟩ : ∃ y, y = (sv'.f k).getD (.slice none 0 0) := ⟨_, rfl⟩
                      obtain ⟨y4, hy4⟩ : ∃ y, y = (sv'.f k).isSome := ⟨_, rfl⟩
                      rw [← hy1, ← hy2, ← hy3, ← hy4]
                      have HYY := Aside0.mk (And.intro hy1 (And.intro hy2 (And.intro hy3 hy4)))
                      clear hy1 hy2 hy3 hy4
                      go_cut [311] from 235 to 311 (fun s311 wx => s311 = .bool false ∧ Aside0 (Below W.heap.size W wx))
                      case first => as_aux_lemma =>
                        cases hfk : sw'.f k with
                        | none =>
                          have hgk : sv'.f k = none := HPW.out.lk.no k hfk
                          obtain ⟨e1, e2, e3, e4⟩ := HYY.out
                          rw [hfk] at e1 e2
                          rw [hgk] at e3 e4
                          simp only [Option.getD_none, Option.isSome_none] at e1 e2 e3 e4
                          subst e1 e2 e3 e4
                          clear hgk HYY hfk
                          refine wp_noPanic ?_
                          refine start_ (n := 77) (S := fun w' => w'.cell? (x.add i) = some (.int .i64 z) ∧ w'.cell? ⟨B3, 0, none⟩ = some (.int .i64 sw'.fr) ∧ w'.cell? ⟨B3 + 1, 0, none⟩ = some (.int .i64 a2) ∧ w'.cell? ⟨H, 0, none⟩ = some (.slice A3 n3 c3)) (ds := []) #[false, false, false, false, false, false, false, false, false, false, false, false, false, false, false, false, false, false, false, false, false, false, false, false, false, false, false, false, false, false, false, false, false, false, false, false, false, false, false, false, false, false, false, false, false, false, false, false, false, false, false, false, false, false, false, false, false, false, false, false, false, false, false, false, false, false, false, false, false, false, false, false, false, false, false, false, false] (by kernel_rfl) rfl rfl ⟨HZd.out, HPW.out.b3.cell, HPW.out.b5.cell, HT3.out.1.cell⟩ (fun hHeld => ?_)
                          refine pure_ (i := 0) (N := some 235) (v := ?_) (a' := ?_) #[true, false, false, false, false, false, false, false, false, false, false, false, false, false, false, false, false, false, false, false, false, false, false, false, false, false, false, false, false, false, false, false, false, false, false, false, false, false, false, false, false, false, false, false, false, false, false, false, false, false, false, false, false, false, false, false, false, false, false, false, false, false, false, false, false, false, false, false, false, false, false, false, false, false, false, false, false] rfl rfl (by kernel_rfl) (fun _ _ _ h => h) (Or.inl ⟨by rfl, ?_⟩) ?_ ?_
                          rotate_left
                          · intro w'
                            go_simp
                            with_reducible rfl
                          rotate_left
                          · simp only [Act.put, List.setIfInBounds_toArray, List.set_cons_zero, List.set_cons_succ, i64_w, i32_w]
                            rfl
                          refine pure_ (i := 1) (N := some 236) (v := ?_) (a' := ?_) #[true, true, false, false, false, false, false, false, false, false, false, false, false, false, false, false, false, false, false, false, false, false, false, false, false, false, false, false, false, false, false, false, false, false, false, false, false, false, false, false, false, false, false, false, false, false, false, false, false, false, false, false, false, false, false, false, false, false, false, false, false, false, false, false, false, false, false, false, false, false, false, false, false, false, false, false, false] rfl rfl (by kernel_rfl) (fun _ _ _ h => h) (Or.inl ⟨by rfl, ?_⟩) ?_ ?_
                          rotate_left
                          · intro w'
                            go_simp
                            with_reducible rfl
                          rotate_left
                          · simp only [Act.put, List.setIfInBounds_toArray, List.set_cons_zero, List.set_cons_succ, i64_w, i32_w]
                            rfl
                          refine pure_ (i := 2) (N := some 237) (v := ?_) (a' := ?_) #[true, true, true, false, false, false, false, false, false, false, false, false, false, false, false, false, false, false, false, false, false, false, false, false, false, false, false, false, false, false, false, false, false, false, false, false, false, false, false, false, false, false, false, false, false, false, false, false, false, false, false, false, false, false, false, false, false, false, false, false, false, false, false, false, false, false, false, false, false, false, false, false, false, false, false, false, false] rfl rfl (by kernel_rfl) (fun _ _ _ h => h) (Or.inl ⟨by rfl, ?_⟩) ?_ ?_
                          rotate_left
                          · intro w'
                            go_simp
                            with_reducible rfl
                          rotate_left
                          · simp only [Act.put, List.setIfInBounds_toArray, List.set_cons_zero, List.set_cons_succ, i64_w, i32_w]
                            rfl
                          refine pure_ (i := 3) (N := some 238) (v := ?_) (a' := ?_) #[true, true, true, true, false, false, false, false, false, false, false, false, false, false, false, false, false, false, false, false, false, false, false, false, false, false, false, false, false, false, false, false, false, false, false, false, false, false, false, false, false, false, false, false, false, false, false, false, false, false, false, false, false, false, false, false, false, false, false, false, false, false, false, false, false, false, false, false, false, false, false, false, false, false, false, false, false] rfl rfl (by kernel_rfl) (fun _ _ _ h => h) (Or.inl ⟨by rfl, ?_⟩) ?_ ?_
                          rotate_left
                          · intro w'
                            go_simp
                            with_reducible rfl
                          rotate_left
                          · simp only [Act.put, List.setIfInBounds_toArray, List.set_cons_zero, List.set_cons_succ, i64_w, i32_w]
                            rfl
                          refine pure_ (i := 4) (N := some 239) (v := ?_) (a' := ?_) #[true, true, true, true, true, false, false, false, false, false, false, false, false, false, false, false, false, false, false, false, false, false, false, false, false, false, false, false, false, false, false, false, false, false, false, false, false, false, false, false, false, false, false, false, false, false, false, false, false, false, false, false, false, false, false, false, false, false, false, false, false, false, false, false, false, false, false, false, false, false, false, false, false, false, false, false, false] rfl rfl (by kernel_rfl) (fun _ _ _ h => h) (Or.inl ⟨by rfl, ?_⟩) ?_ ?_
                          rotate_left
                          · intro w'
                            go_simp
                            with_reducible rfl
                          rotate_left
                          · simp only [Act.put, List.setIfInBounds_toArray, List.set_cons_zero, List.set_cons_succ, i64_w, i32_w]
                            rfl
                          refine pure_ (i := 5) (N := some 240) (v := ?_) (a' := ?_) #[true, true, true, true, true, true, false, false, false, false, false, false, false, false, false, false, false, false, false, false, false, false, false, false, false, false, false, false, false, false, false, false, false, false, false, false, false, false, false, false, false, false, false, false, false, false, false, false, false, false, false, false, false, false, false, false, false, false, false, false, false, false, false, false, false, false, false, false, false, false, false, false, false, false, false, false, false] rfl rfl (by kernel_rfl) (fun _ _ _ h => h) (Or.inl ⟨by rfl, ?_⟩) ?_ ?_
                          rotate_left
                          · intro w'
                            go_simp
                            with_reducible rfl
                          rotate_left
                          · simp only [Act.put, List.setIfInBounds_toArray, List.set_cons_zero, List.set_cons_succ, i64_w, i32_w]
                            rfl
                          refine pure_ (i := 6) (N := some 241) (v := undef) (a' := ?_) #[true, true, true, true, true, true, true, false, false, false, false, false, false, false, false, false, false, false, false, false, false, false, false, false, false, false, false, false, false, false, false, false, false, false, false, false, false, false, false, false, false, false, false, false, false, false, false, false, false, false, false, false, false, false, false, false, false, false, false, false, false, false, false, false, false, false, false, false, false, false, false, false, false, false, false, false, false] rfl rfl (by kernel_rfl) (fun _ _ _ h => h) (Or.inr ⟨by rfl, rfl⟩) ?_ ?_
                          rotate_left
                          · simp only [Act.put, List.setIfInBounds_toArray, List.set_cons_zero, List.set_cons_succ, i64_w, i32_w]
                            rfl
                          as_aux_lemma =>
                            refine pure_ (i := 7) (N := some 242) (v := undef) (a' := ?_) #[true, true, true, true, true, true, true, true, false, false, false, false, false, false, false, false, false, false, false, false, false, false, false, false, false, false, false, false, false, false, false, false, false, false, false, false, false, false, false, false, false, false, false, false, false, false, false, false, false, false, false, false, false, false, false, false, false, false, false, false, false, false, false, false, false, false, false, false, false, false, false, false, false, false, false, false, false] rfl rfl (by kernel_rfl) (fun _ _ _ h => h) (Or.inr ⟨by rfl, rfl⟩) ?_ ?_
                            rotate_left
                            · simp only [Act.put, List.setIfInBounds_toArray, List.set_cons_zero, List.set_cons_succ, i64_w, i32_w]
                              rfl
                            refine pure_ (i := 8) (N := some 243) (v := undef) (a' := ?_) #[true, true, true, true, true, true, true, true, true, false, false, false, false, false, false, false, false, false, false, false, false, false, false, false, false, false, false, false, false, false, false, false, false, false, false, false, false, false, false, false, false, false, false, false, false, false, false, false, false, false, false, false, false, false, false, false, false, false, false, false, false, false, false, false, false, false, false, false, false, false, false, false, false, false, false, false, false] rfl rfl (by kernel_rfl) (fun _ _ _ h => h) (Or.inr ⟨by rfl, rfl⟩) ?_ ?_
                            rotate_left
                            · simp only [Act.put, List.setIfInBounds_toArray, List.set_cons_zero, List.set_cons_succ, i64_w, i32_w]
                              rfl
                            refine pure_ (i := 9) (N := some 244) (v := ?_) (a' := ?_) #[true, true, true, true, true, true, true, true, true, true, false, false, false, false, false, false, false, false, false, false, false, false, false, false, false, false, false, false, false, false, false, false, false, false, false, false, false, false, false, false, false, false, false, false, false, false, false, false, false, false, false, false, false, false, false, false, false, false, false, false, false, false, false, false, false, false, false, false, false, false, false, false, false, false, false, false, false] rfl rfl (by kernel_rfl) (fun _ _ _ h => h) (Or.inl ⟨by rfl, ?_⟩) ?_ ?_
                            rotate_left
                            · intro w'
                              go_simp
                              with_reducible rfl
                            rotate_left
                            · simp only [Act.put, List.setIfInBounds_toArray, List.set_cons_zero, List.set_cons_succ, i64_w, i32_w]
                              rfl
                            refine pure_ (i := 10) (N := some 245) (v := ?_) (a' := ?_) #[true, true, true, true, true, true, true, true, true, true, true, false, false, false, false, false, false, false, false, false, false, false, false, false, false, false, false, false, false, false, false, false, false, false, false, false, false, false, false, false, false, false, false, false, false, false, false, false, false, false, false, false, false, false, false, false, false, false, false, false, false, false, false, false, false, false, false, false, false, false, false, false, false, false, false, false, false] rfl rfl (by kernel_rfl) (fun _ _ _ h => h) (Or.inl ⟨by rfl, ?_⟩) ?_ ?_
                            rotate_left
                            · intro w'
                              go_simp
                              with_reducible rfl
                            rotate_left
                            · simp only [Act.put, List.setIfInBounds_toArray, List.set_cons_zero, List.set_cons_succ, i64_w, i32_w]
                              rfl
                            refine pure_ (i := 11) (N := some 246) (v := ?_) (a' := ?_) #[true, true, true, true, true, true, true, true, true, true, true, true, false, false, false, false, false, false, false, false, false, false, false, false, false, false, false, false, false, false, false, false, false, false, false, false, false, false, false, false, false, false, false, false, false, false, false, false, false, false, false, false, false, false, false, false, false, false, false, false, false, false, false, false, false, false, false, false, false, false, false, false, false, false, false, false, false] rfl rfl (by kernel_rfl) (fun _ _ _ h => h) (Or.inl ⟨by rfl, ?_⟩) ?_ ?_
                            rotate_left
                            · intro w'
                              go_simp
                              with_reducible rfl
                            rotate_left
                            · simp only [Act.put, List.setIfInBounds_toArray, List.set_cons_zero, List.set_cons_succ, i64_w, i32_w]
                              rfl
                            refine pure_ (i := 12) (N := some 247) (v := ?_) (a' := ?_) #[true, true, true, true, true, true, true, true, true, true, true, true, true, false, false, false, false, false, false, false, false, false, false, false, false, false, false, false, false, false, false, false, false, false, false, false, false, false, false, false, false, false, false, false, false, false, false, false, false, false, false, false, false, false, false, false, false, false, false, false, false, false, false, false, false, false, false, false, false, false, false, false, false, false, false, false, false] rfl rfl (by kernel_rfl) (fun _ _ _ h => h) (Or.inl ⟨by rfl, ?_⟩) ?_ ?_
                            rotate_left
                            · intro w'
                              go_simp
                              with_reducible rfl
                            rotate_left
                            · simp only [Act.put, List.setIfInBounds_toArray, List.set_cons_zero, List.set_cons_succ, i64_w, i32_w]
                              rfl
                            refine pure_ (i := 13) (N := some 248) (v := ?_) (a' := ?_) #[true, true, true, true, true, true, true, true, true, true, true, true, true, true, false, false, false, false, false, false, false, false, false, false, false, false, false, false, false, false, false, false, false, false, false, false, false, false, false, false, false, false, false, false, false, false, false, false, false, false, false, false, false, false, false, false, false, false, false, false, false, false, false, false, false, false, false, false, false, false, false, false, false, false, false, false, false] rfl rfl (by kernel_rfl) (fun _ _ _ h => h) (Or.inl ⟨by rfl, ?_⟩) ?_ ?_
                            rotate_left
                            · intro w'
                              go_simp
                              with_reducible rfl
                            rotate_left
                            · simp only [Act.put, List.setIfInBounds_toArray, List.set_cons_zero, List.set_cons_succ, i64_w, i32_w]
                              rfl
                            refine pure_ (i := 14) (N := some 249) (v := ?_) (a' := ?_) #[true, true, true, true, true, true, true, true, true, true, true, true, true, true, true, false, false, false, false, false, false, false, false, false, false, false, false, false, false, false, false, false, false, false, false, false, false, false, false, false, false, false, false, false, false, false, false, false, false, false, false, false, false, false, false, false, false, false, false, false, false, false, false, false, false, false, false, false, false, false, false, false, false, false, false, false, false] rfl rfl (by kernel_rfl) (fun _ _ _ h => h) (Or.inl ⟨by rfl, ?_⟩) ?_ ?_
                            rotate_left
                            · intro w'
                              go_simp
                              with_reducible rfl
                            rotate_left
                            · simp only [Act.put, List.setIfInBounds_toArray, List.set_cons_zero, List.set_cons_succ, i64_w, i32_w]
                              rfl
                            as_aux_lemma =>
                              refine pure_ (i := 15) (N := some 250) (v := ?_) (a' := ?_) #[true, true, true, true, true, true, true, true, true, true, true, true, true, true, true, true, false, false, false, false, false, false, false, false, false, false, false, false, false, false, false, false, false, false, false, false, false, false, false, false, false, false, false, false, false, false, false, false, false, false, false, false, false, false, false, false, false, false, false, false, false, false, false, false, false, false, false, false, false, false, false, false, false, false, false, false, false] rfl rfl (by kernel_rfl) (fun _ _ _ h => h) (Or.inl ⟨by rfl, ?_⟩) ?_ ?_
                              rotate_left
                              · intro w'
                                go_simp
                                with_reducible rfl
                              rotate_left
                              · simp only [Act.put, List.setIfInBounds_toArray, List.set_cons_zero, List.set_cons_succ, i64_w, i32_w]
                                rfl
                              refine pure_ (i := 16) (N := some 251) (v := ?_) (a' := ?_) #[true, true, true, true, true, true, true, true, true, true, true, true, true, true, true, true, true, false, false, false, false, false, false, false, false, false, false, false, false, false, false, false, false, false, false, false, false, false, false, false, false, false, false, false, false, false, false, false, false, false, false, false, false, false, false, false, false, false, false, false, false, false, false, false, false, false, false, false, false, false, false, false, false, false, false, false, false] rfl rfl (by kernel_rfl) (fun _ _ _ h => h) (Or.inl ⟨by rfl, ?_⟩) ?_ ?_
                              rotate_left
                              · intro w'
                                go_simp
                                with_reducible rfl
                              rotate_left
                              · simp only [Act.put, List.setIfInBounds_toArray, List.set_cons_zero, List.set_cons_succ, i64_w, i32_w]
                                rfl
                              refine pure_ (i := 17) (N := some 252) (v := ?_) (a' := ?_) #[true, true, true, true, true, true, true, true, true, true, true, true, true, true, true, true, true, true, false, false, false, false, false, false, false, false, false, false, false, false, false, false, false, false, false, false, false, false, false, false, false, false, false, false, false, false, false, false, false, false, false, false, false, false, false, false, false, false, false, false, false, false, false, false, false, false, false, false, false, false, false, false, false, false, false, false, false] rfl rfl (by kernel_rfl) (fun _ _ _ h => h) (Or.inl ⟨by rfl, ?_⟩) ?_ ?_
                              rotate_left
                              · intro w'
                                go_simp
                                with_reducible rfl
                              rotate_left
                              · simp only [Act.put, List.setIfInBounds_toArray, List.set_cons_zero, List.set_cons_succ, i64_w, i32_w]
                                rfl
                              refine pure_ (i := 18) (N := some 253) (v := ?_) (a' := ?_) #[true, true, true, true, true, true, true, true, true, true, true, true, true, true, true, true, true, true, true, false, false, false, false, false, false, false, false, false, false, false, false, false, false, false, false, false, false, false, false, false, false, false, false, false, false, false, false, false, false, false, false, false, false, false, false, false, false, false, false, false, false, false, false, false, false, false, false, false, false, false, false, false, false, false, false, false, false] rfl rfl (by kernel_rfl) (fun _ _ _ h => h) (Or.inl ⟨by rfl, ?_⟩) ?_ ?_
                              rotate_left
                              · intro w'
                                go_simp
                                with_reducible rfl
                              rotate_left
                              · simp only [Act.put, List.setIfInBounds_toArray, List.set_cons_zero, List.set_cons_succ, i64_w, i32_w]
                                rfl
                              refine pure_ (i := 19) (N := some 254) (v := undef) (a' := ?_) #[true, true, true, true, true, true, true, true, true, true, true, true, true, true, true, true, true, true, true, true, false, false, false, false, false, false, false, false, false, false, false, false, false, false, false, false, false, false, false, false, false, false, false, false, false, false, false, false, false, false, false, false, false, false, false, false, false, false, false, false, false, false, false, false, false, false, false, false, false, false, false, false, false, false, false, false, false] rfl rfl (by kernel_rfl) (fun _ _ _ h => h) (Or.inr ⟨by rfl, rfl⟩) ?_ ?_
                              rotate_left
                              · simp only [Act.put, List.setIfInBounds_toArray, List.set_cons_zero, List.set_cons_succ, i64_w, i32_w]
                                rfl
                              refine pure_ (i := 20) (N := some 255) (v := undef) (a' := ?_) #[true, true, true, true, true, true, true, true, true, true, true, true, true, true, true, true, true, true, true, true, true, false, false, false, false, false, false, false, false, false, false, false, false, false, false, false, false, false, false, false, false, false, false, false, false, false, false, false, false, false, false, false, false, false, false, false, false, false, false, false, false, false, false, false, false, false, false, false, false, false, false, false, false, false, false, false, false] rfl rfl (by kernel_rfl) (fun _ _ _ h => h) (Or.inr ⟨by rfl, rfl⟩) ?_ ?_
                              rotate_left
                              · simp only [Act.put, List.setIfInBounds_toArray, List.set_cons_zero, List.set_cons_succ, i64_w, i32_w]
                                rfl
                              refine pure_ (i := 21) (N := some 256) (v := undef) (a' := ?_) #[true, true, true, true, true, true, true, true, true, true, true, true, true, true, true, true, true, true, true, true, true, true, false, false, false, false, false, false, false, false, false, false, false, false, false, false, false, false, false, false, false, false, false, false, false, false, false, false, false, false, false, false, false, false, false, false, false, false, false, false, false, false, false, false, false, false, false, false, false, false, false, false, false, false, false, false, false] rfl rfl (by kernel_rfl) (fun _ _ _ h => h) (Or.inr ⟨by rfl, rfl⟩) ?_ ?_
                              rotate_left
                              · simp only [Act.put, List.setIfInBounds_toArray, List.set_cons_zero, List.set_cons_succ, i64_w, i32_w]
                                rfl
                              refine pure_ (i := 22) (N := some 257) (v := undef) (a' := ?_) #[true, true, true, true, true, true, true, true, true, true, true, true, true, true, true, true, true, true, true, true, true, true, true, false, false, false, false, false, false, false, false, false, false, false, false, false, false, false, false, false, false, false, false, false, false, false, false, false, false, false, false, false, false, false, false, false, false, false, false, false, false, false, false, false, false, false, false, false, false, false, false, false, false, false, false, false, false] rfl rfl (by kernel_rfl) (fun _ _ _ h => h) (Or.inr ⟨by rfl, rfl⟩) ?_ ?_
                              rotate_left
                              · simp only [Act.put, List.setIfInBounds_toArray, List.set_cons_zero, List.set_cons_succ, i64_w, i32_w]
                                rfl
                              as_aux_lemma =>
                                refine pure_ (i := 23) (N := some 258) (v := undef) (a' := ?_) #[true, true, true, true, true, true, true, true, true, true, true, true, true, true, true, true, true, true, true, true, true, true, true, true, false, false, false, false, false, false, false, false, false, false, false, false, false, false, false, false, false, false, false, false, false, false, false, false, false, false, false, false, false, false, false, false, false, false, false, false, false, false, false, false, false, false, false, false, false, false, false, false, false, false, false, false, false] rfl rfl (by kernel_rfl) (fun _ _ _ h => h) (Or.inr ⟨by rfl, rfl⟩) ?_ ?_
                                rotate_left
                                · simp only [Act.put, List.setIfInBounds_toArray, List.set_cons_zero, List.set_cons_succ, i64_w, i32_w]
                                  rfl
                                refine pure_ (i := 24) (N := some 259) (v := undef) (a' := ?_) #[true, true, true, true, true, true, true, true, true, true, true, true, true, true, true, true, true, true, true, true, true, true, true, true, true, false, false, false, false, false, false, false, false, false, false, false, false, false, false, false, false, false, false, false, false, false, false, false, false, false, false, false, false, false, false, false, false, false, false, false, false, false, false, false, false, false, false, false, false, false, false, false, false, false, false, false, false] rfl rfl (by kernel_rfl) (fun _ _ _ h => h) (Or.inr ⟨by rfl, rfl⟩) ?_ ?_
                                rotate_left
                                · simp only [Act.put, List.setIfInBounds_toArray, List.set_cons_zero, List.set_cons_succ, i64_w, i32_w]
                                  rfl
                                refine pure_ (i := 25) (N := some 260) (v := undef) (a' := ?_) #[true, true, true, true, true, true, true, true, true, true, true, true, true, true, true, true, true, true, true, true, true, true, true, true, true, true, false, false, false, false, false, false, false, false, false, false, false, false, false, false, false, false, false, false, false, false, false, false, false, false, false, false, false, false, false, false, false, false, false, false, false, false, false, false, false, false, false, false, false, false, false, false, false, false, false, false, false] rfl rfl (by kernel_rfl) (fun _ _ _ h => h) (Or.inr ⟨by rfl, rfl⟩) ?_ ?_
                                rotate_left
                                · simp only [Act.put, List.setIfInBounds_toArray, List.set_cons_zero, List.set_cons_succ, i64_w, i32_w]
                                  rfl
                                refine pure_ (i := 26) (N := some 261) (v := undef) (a' := ?_) #[true, true, true, true, true, true, true, true, true, true, true, true, true, true, true, true, true, true, true, true, true, true, true, true, true, true, true, false, false, false, false, false, false, false, false, false, false, false, false, false, false, false, false, false, false, false, false, false, false, false, false, false, false, false, false, false, false, false, false, false, false, false, false, false, false, false, false, false, false, false, false, false, false, false, false, false, false] rfl rfl (by kernel_rfl) (fun _ _ _ h => h) (Or.inr ⟨by rfl, rfl⟩) ?_ ?_
                                rotate_left
                                · simp only [Act.put, List.setIfInBounds_toArray, List.set_cons_zero, List.set_cons_succ, i64_w, i32_w]
                                  rfl
                                refine pure_ (i := 27) (N := some 262) (v := undef) (a' := ?_) #[true, true, true, true, true, true, true, true, true, true, true, true, true, true, true, true, true, true, true, true, true, true, true, true, true, true, true, true, false, false, false, false, false, false, false, false, false, false, false, false, false, false, false, false, false, false, false, false, false, false, false, false, false, false, false, false, false, false, false, false, false, false, false, false, false, false, false, false, false, false, false, false, false, false, false, false, false] rfl rfl (by kernel_rfl) (fun _ _ _ h => h) (Or.inr ⟨by rfl, rfl⟩) ?_ ?_
                                rotate_left
                                · simp only [Act.put, List.setIfInBounds_toArray, List.set_cons_zero, List.set_cons_succ, i64_w, i32_w]
                                  rfl
                                refine pure_ (i := 28) (N := some 263) (v := undef) (a' := ?_) #[true, true, true, true, true, true, true, true, true, true, true, true, true, true, true, true, true, true, true, true, true, true, true, true, true, true, true, true, true, false, false, false, false, false, false, false, false, false, false, false, false, false, false, false, false, false, false, false, false, false, false, false, false, false, false, false, false, false, false, false, false, false, false, false, false, false, false, false, false, false, false, false, false, false, false, false, false] rfl rfl (by kernel_rfl) (fun _ _ _ h => h) (Or.inr ⟨by rfl, rfl⟩) ?_ ?_
                                rotate_left
                                · simp only [Act.put, List.setIfInBounds_toArray, List.set_cons_zero, List.set_cons_succ, i64_w, i32_w]
                                  rfl
                                refine pure_ (i := 29) (N := some 264) (v := undef) (a' := ?_) #[true, true, true, true, true, true, true, true, true, true, true, true, true, true, true, true, true, true, true, true, true, true, true, true, true, true, true, true, true, true, false, false, false, false, false, false, false, false, false, false, false, false, false, false, false, false, false, false, false, false, false, false, false, false, false, false, false, false, false, false, false, false, false, false, false, false, false, false, false, false, false, false, false, false, false, false, false] rfl rfl (by kernel_rfl) (fun _ _ _ h => h) (Or.inr ⟨by rfl, rfl⟩) ?_ ?_
                                rotate_left
                                · simp only [Act.put, List.setIfInBounds_toArray, List.set_cons_zero, List.set_cons_succ, i64_w, i32_w]
                                  rfl
                                refine pure_ (i := 30) (N := some 265) (v := ?_) (a' := ?_) #[true, true, true, true, true, true, true, true, true, true, true, true, true, true, true, true, true, true, true, true, true, true, true, true, true, true, true, true, true, true, true, false, false, false, false, false, false, false, false, false, false, false, false, false, false, false, false, false, false, false, false, false, false, false, false, false, false, false, false, false, false, false, false, false, false, false, false, false, false, false, false, false, false, false, false, false, false] rfl rfl (by kernel_rfl) (fun _ _ _ h => h) (Or.inl ⟨by rfl, ?_⟩) ?_ ?_
                                rotate_left
                                · intro w'
                                  go_simp
                                  with_reducible rfl
                                rotate_left
                                · simp only [Act.put, List.setIfInBounds_toArray, List.set_cons_zero, List.set_cons_succ, i64_w, i32_w]
                                  rfl
                                as_aux_lemma =>
                                  refine pure_ (i := 31) (N := some 266) (v := ?_) (a' := ?_) #[true, true, true, true, true, true, true, true, true, true, true, true, true, true, true, true, true, true, true, true, true, true, true, true, true, true, true, true, true, true, true, true, false, false, false, false, false, false, false, false, false, false, false, false, false, false, false, false, false, false, false, false, false, false, false, false, false, false, false, false, false, false, false, false, false, false, false, false, false, false, false, false, false, false, false, false, false] rfl rfl (by kernel_rfl) (fun _ _ _ h => h) (Or.inl ⟨by rfl, ?_⟩) ?_ ?_
                                  rotate_left
                                  · intro w'
                                    go_simp
                                    with_reducible rfl
                                  rotate_left
                                  · simp only [Act.put, List.setIfInBounds_toArray, List.set_cons_zero, List.set_cons_succ, i64_w, i32_w]
                                    rfl
                                  refine pure_ (i := 32) (N := some 267) (v := ?_) (a' := ?_) #[true, true, true, true, true, true, true, true, true, true, true, true, true, true, true, true, true, true, true, true, true, true, true, true, true, true, true, true, true, true, true, true, true, false, false, false, false, false, false, false, false, false, false, false, false, false, false, false, false, false, false, false, false, false, false, false, false, false, false, false, false, false, false, false, false, false, false, false, false, false, false, false, false, false, false, false, false] rfl rfl (by kernel_rfl) (fun _ _ _ h => h) (Or.inl ⟨by rfl, ?_⟩) ?_ ?_
                                  rotate_left
                                  · intro w'
                                    go_simp
                                    with_reducible rfl
                                  rotate_left
                                  · simp only [Act.put, List.setIfInBounds_toArray, List.set_cons_zero, List.set_cons_succ, i64_w, i32_w]
                                    rfl
                                  refine pure_ (i := 33) (N := some 268) (v := ?_) (a' := ?_) #[true, true, true, true, true, true, true, true, true, true, true, true, true, true, true, true, true, true, true, true, true, true, true, true, true, true, true, true, true, true, true, true, true, true, false, false, false, false, false, false, false, false, false, false, false, false, false, false, false, false, false, false, false, false, false, false, false, false, false, false, false, false, false, false, false, false, false, false, false, false, false, false, false, false, false, false, false] rfl rfl (by kernel_rfl) (fun _ _ _ h => h) (Or.inl ⟨by rfl, ?_⟩) ?_ ?_
                                  rotate_left
                                  · intro w'
                                    go_simp
                                    with_reducible rfl
                                  rotate_left
                                  · simp only [Act.put, List.setIfInBounds_toArray, List.set_cons_zero, List.set_cons_succ, i64_w, i32_w]
                                    rfl
                                  refine take_ (i := 35) (N := some 270) (v := ?_) (a' := ?_) #[true, true, true, true, true, true, true, true, true, true, true, true, true, true, true, true, true, true, true, true, true, true, true, true, true, true, true, true, true, true, true, true, true, true, false, true, false, false, false, false, false, false, false, false, false, false, false, false, false, false, false, false, false, false, false, false, false, false, false, false, false, false, false, false, false, false, false, false, false, false, false, false, false, false, false, false, false] rfl rfl (by kernel_rfl) (fun _ _ _ h => h) (Or.inl ⟨by rfl, ?_⟩) hHeld ?_ ?_
                                  rotate_left
                                  · rintro w' ⟨s0, s1, s2, s3⟩
                                    go_simp
                                    with_reducible rfl
                                  rotate_left
                                  · simp only [Act.put, List.setIfInBounds_toArray, List.set_cons_zero, List.set_cons_succ, i64_w, i32_w]
                                    rfl
                                  refine one_ (i := 34) (N := some 269) #[true, true, true, true, true, true, true, true, true, true, true, true, true, true, true, true, true, true, true, true, true, true, true, true, true, true, true, true, true, true, true, true, true, true, true, true, false, false, false, false, false, false, false, false, false, false, false, false, false, false, false, false, false, false, false, false, false, false, false, false, false, false, false, false, false, false, false, false, false, false, false, false, false, false, false, false, false] rfl rfl (by kernel_rfl) (by decide) (fun K_ hK => ?_)
                                  refine goes_ Try.func36 (by kernel_rfl) rfl #[.pointer (some ⟨bw, 0, none⟩)] (by rfl) rfl rfl (by simp only [List.map_toArray, List.map_cons, List.map_nil]; rfl) ?_
                                  with_reducible refine (from36 bw mw (i + 1) sw' W.drew HPW.out.drew.hw).mono ?_
                                  rintro e wq1 ⟨rfl, rfl⟩
                                  refine ⟨_, rfl, ?_⟩
                                  refine hK.out _ _ ⟨hHeld.1, hHeld.2.1, hHeld.2.2.1, hHeld.2.2.2⟩ (fun hHeld => ?_)
                                  clear hK K_
                                  refine norm_ (a' := ?_) ?_ ?_
                                  rotate_left
                                  · show Act.put _ (some 269) _ = _
                                    simp only [Act.put, List.setIfInBounds_toArray, List.set_cons_zero, List.set_cons_succ, i64_w, i32_w]
                                    rfl
                                  refine pure_ (i := 36) (N := some 271) (v := ?_) (a' := ?_) #[true, true, true, true, true, true, true, true, true, true, true, true, true, true, true, true, true, true, true, true, true, true, true, true, true, true, true, true, true, true, true, true, true, true, true, true, true, false, false, false, false, false, false, false, false, false, false, false, false, false, false, false, false, false, false, false, false, false, false, false, false, false, false, false, false, false, false, false, false, false, false, false, false, false, false, false, false] rfl rfl (by kernel_rfl) (fun _ _ _ h => h) (Or.inl ⟨by rfl, ?_⟩) ?_ ?_
                                  rotate_left
                                  · intro w'
                                    go_simp
                                    with_reducible rfl
                                  rotate_left
                                  · simp only [Act.put, List.setIfInBounds_toArray, List.set_cons_zero, List.set_cons_succ, i64_w, i32_w]
                                    rfl
                                  refine pure_ (i := 37) (N := some 272) (v := ?_) (a' := ?_) #[true, true, true, true, true, true, true, true, true, true, true, true, true, true, true, true, true, true, true, true, true, true, true, true, true, true, true, true, true, true, true, true, true, true, true, true, true, true, false, false, false, false, false, false, false, false, false, false, false, false, false, false, false, false, false, false, false, false, false, false, false, false, false, false, false, false, false, false, false, false, false, false, false, false, false, false, false] rfl rfl (by kernel_rfl) (fun _ _ _ h => h) (Or.inl ⟨by rfl, ?_⟩) ?_ ?_
                                  rotate_left
                                  · intro w'
                                    go_simp
                                    with_reducible rfl
                                  rotate_left
                                  · simp only [Act.put, List.setIfInBounds_toArray, List.set_cons_zero, List.set_cons_succ, i64_w, i32_w]
                                    rfl
                                  refine pure_ (i := 38) (N := some 273) (v := ?_) (a' := ?_) #[true, true, true, true, true, true, true, true, true, true, true, true, true, true, true, true, true, true, true, true, true, true, true, true, true, true, true, true, true, true, true, true, true, true, true, true, true, true, true, false, false, false, false, false, false, false, false, false, false, false, false, false, false, false, false, false, false, false, false, false, false, false, false, false, false, false, false, false, false, false, false, false, false, false, false, false, false] rfl rfl (by kernel_rfl) (fun _ _ _ h => h) (Or.inl ⟨by rfl, ?_⟩) ?_ ?_
                                  rotate_left
                                  · intro w'
                                    go_simp
                                    with_reducible rfl
                                  rotate_left
                                  · simp only [Act.put, List.setIfInBounds_toArray, List.set_cons_zero, List.set_cons_succ, i64_w, i32_w]
                                    rfl
                                  as_aux_lemma =>
                                    refine pure_ (i := 39) (N := some 274) (v := ?_) (a' := ?_) #[true, true, true, true, true, true, true, true, true, true, true, true, true, true, true, true, true, true, true, true, true, true, true, true, true, true, true, true, true, true, true, true, true, true, true, true, true, true, true, true, false, false, false, false, false, false, false, false, false, false, false, false, false, false, false, false, false, false, false, false, false, false, false, false, false, false, false, false, false, false, false, false, false, false, false, false, false] rfl rfl (by kernel_rfl) (fun _ _ _ h => h) (Or.inl ⟨by rfl, ?_⟩) ?_ ?_
                                    rotate_left
                                    · intro w'
                                      go_simp
                                      with_reducible rfl
                                    rotate_left
                                    · simp only [Act.put, List.setIfInBounds_toArray, List.set_cons_zero, List.set_cons_succ, i64_w, i32_w]
                                      rfl
                                    refine pure_ (i := 41) (N := some 276) (v := ?_) (a' := ?_) #[true, true, true, true, true, true, true, true, true, true, true, true, true, true, true, true, true, true, true, true, true, true, true, true, true, true, true, true, true, true, true, true, true, true, true, true, true, true, true, true, false, true, false, false, false, false, false, false, false, false, false, false, false, false, false, false, false, false, false, false, false, false, false, false, false, false, false, false, false, false, false, false, false, false, false, false, false] rfl rfl (by kernel_rfl) (fun _ _ _ h => h) (Or.inl ⟨by rfl, ?_⟩) ?_ ?_
                                    rotate_left
                                    · intro w'
                                      go_simp
                                      with_reducible rfl
                                    rotate_left
                                    · simp only [Act.put, List.setIfInBounds_toArray, List.set_cons_zero, List.set_cons_succ, i64_w, i32_w]
                                      rfl
                                    refine one_ (i := 40) (N := some 275) #[true, true, true, true, true, true, true, true, true, true, true, true, true, true, true, true, true, true, true, true, true, true, true, true, true, true, true, true, true, true, true, true, true, true, true, true, true, true, true, true, true, true, false, false, false, false, false, false, false, false, false, false, false, false, false, false, false, false, false, false, false, false, false, false, false, false, false, false, false, false, false, false, false, false, false, false, false] rfl rfl (by kernel_rfl) (by decide) (fun K_ hK => ?_)
                                    refine goes_ Try.func10 (by kernel_rfl) rfl #[.pointer (some ⟨bw, 0, none⟩)] (by rfl) rfl rfl (by simp only [List.map_toArray, List.map_cons, List.map_nil]; rfl) ?_
                                    with_reducible refine (whole10 bw mw (i + 1) sw' _ HPW.out.drew.hw).mono ?_
                                    rintro e wq2 ⟨rfl, rfl⟩
                                    refine ⟨_, rfl, ?_⟩
                                    refine hK.out _ _ ⟨hHeld.1, hHeld.2.1, hHeld.2.2.1, hHeld.2.2.2⟩ (fun hHeld => ?_)
                                    clear hK K_
                                    refine norm_ (a' := ?_) ?_ ?_
                                    rotate_left
                                    · show Act.put _ (some 275) _ = _
                                      simp only [Act.put, List.setIfInBounds_toArray, List.set_cons_zero, List.set_cons_succ, i64_w, i32_w]
                                      rfl
                                    refine one_ (i := 42) (N := some 277) #[true, true, true, true, true, true, true, true, true, true, true, true, true, true, true, true, true, true, true, true, true, true, true, true, true, true, true, true, true, true, true, true, true, true, true, true, true, true, true, true, true, true, true, false, false, false, false, false, false, false, false, false, false, false, false, false, false, false, false, false, false, false, false, false, false, false, false, false, false, false, false, false, false, false, false, false, false] rfl rfl (by kernel_rfl) (by decide) (fun K_ hK => ?_)
                                    refine call_ 29 #[.pointer (some ⟨B3, 0, none⟩), .pointer (some ⟨mh + 1, 0, none⟩)] (by rfl) rfl ?_ ?_
                                    · have he := enters_ Try.func29 (by kernel_rfl) rfl #[.pointer (some ⟨B3, 0, none⟩), .pointer (some ⟨mh + 1, 0, none⟩)]
                                      unfold execOp
                                      simp [resolve, Deferred.ofValue, invoke, Act.eval, he]
                                    with_reducible refine (whole29 B3 (mh + 1) mh (i + 1) sw' _ HPW.out.drew.b3 HPW.out.drew.b9 HPW.out.drew.hm HPW.out.drew.iw hii).mono ?_
                                    rintro e wq3 ⟨rfl, rfl⟩
                                    refine ⟨_, rfl, ?_⟩
                                    refine hK.out _ _ ⟨hHeld.1, hHeld.2.1, hHeld.2.2.1, hHeld.2.2.2⟩ (fun hHeld => ?_)
                                    clear hK K_
                                    refine norm_ (a' := ?_) ?_ ?_
                                    rotate_left
                                    · show Act.put _ (some 277) _ = _
                                      simp only [Act.put, List.setIfInBounds_toArray, List.set_cons_zero, List.set_cons_succ, i64_w, i32_w]
                                      rfl
                                    refine pure_ (i := 43) (N := some 278) (v := ?_) (a' := ?_) #[true, true, true, true, true, true, true, true, true, true, true, true, true, true, true, true, true, true, true, true, true, true, true, true, true, true, true, true, true, true, true, true, true, true, true, true, true, true, true, true, true, true, true, true, false, false, false, false, false, false, false, false, false, false, false, false, false, false, false, false, false, false, false, false, false, false, false, false, false, false, false, false, false, false, false, false, false] rfl rfl (by kernel_rfl) (fun _ _ _ h => h) (Or.inl ⟨by rfl, ?_⟩) ?_ ?_
                                    rotate_left
                                    · intro w'
                                      go_simp
                                      with_reducible rfl
                                    rotate_left
                                    · simp only [Act.put, List.setIfInBounds_toArray, List.set_cons_zero, List.set_cons_succ, i64_w, i32_w]
                                      rfl
                                    refine pure_ (i := 44) (N := some 279) (v := ?_) (a' := ?_) #[true, true, true, true, true, true, true, true, true, true, true, true, true, true, true, true, true, true, true, true, true, true, true, true, true, true, true, true, true, true, true, true, true, true, true, true, true, true, true, true, true, true, true, true, true, false, false, false, false, false, false, false, false, false, false, false, false, false, false, false, false, false, false, false, false, false, false, false, false, false, false, false, false, false, false, false, false] rfl rfl (by kernel_rfl) (fun _ _ _ h => h) (Or.inl ⟨by rfl, ?_⟩) ?_ ?_
                                    rotate_left
                                    · intro w'
                                      go_simp
                                      with_reducible rfl
                                    rotate_left
                                    · simp only [Act.put, List.setIfInBounds_toArray, List.set_cons_zero, List.set_cons_succ, i64_w, i32_w]
                                      rfl
                                    refine pure_ (i := 45) (N := some 280) (v := ?_) (a' := ?_) #[true, true, true, true, true, true, true, true, true, true, true, true, true, true, true, true, true, true, true, true, true, true, true, true, true, true, true, true, true, true, true, true, true, true, true, true, true, true, true, true, true, true, true, true, true, true, false, false, false, false, false, false, false, false, false, false, false, false, false, false, false, false, false, false, false, false, false, false, false, false, false, false, false, false, false, false, false] rfl rfl (by kernel_rfl) (fun _ _ _ h => h) (Or.inl ⟨by rfl, ?_⟩) ?_ ?_
                                    rotate_left
                                    · intro w'
                                      go_simp
                                      with_reducible rfl
                                    rotate_left
                                    · simp only [Act.put, List.setIfInBounds_toArray, List.set_cons_zero, List.set_cons_succ, i64_w, i32_w]
                                      rfl
                                    refine pure_ (i := 46) (N := some 281) (v := ?_) (a' := ?_) #[true, true, true, true, true, true, true, true, true, true, true, true, true, true, true, true, true, true, true, true, true, true, true, true, true, true, true, true, true, true, true, true, true, true, true, true, true, true, true, true, true, true, true, true, true, true, true, false, false, false, false, false, false, false, false, false, false, false, false, false, false, false, false, false, false, false, false, false, false, false, false, false, false, false, false, false, false] rfl rfl (by kernel_rfl) (fun _ _ _ h => h) (Or.inl ⟨by rfl, ?_⟩) ?_ ?_
                                    rotate_left
                                    · intro w'
                                      go_simp
                                      with_reducible rfl
                                    rotate_left
                                    · simp only [Act.put, List.setIfInBounds_toArray, List.set_cons_zero, List.set_cons_succ, i64_w, i32_w]
                                      rfl
                                    as_aux_lemma =>
                                      refine pure_ (i := 48) (N := some 283) (v := ?_) (a' := ?_) #[true, true, true, true, true, true, true, true, true, true, true, true, true, true, true, true, true, true, true, true, true, true, true, true, true, true, true, true, true, true, true, true, true, true, true, true, true, true, true, true, true, true, true, true, true, true, true, false, true, false, false, false, false, false, false, false, false, false, false, false, false, false, false, false, false, false, false, false, false, false, false, false, false, false, false, false, false] rfl rfl (by kernel_rfl) (fun _ _ _ h => h) (Or.inl ⟨by rfl, ?_⟩) ?_ ?_
                                      rotate_left
                                      · intro w'
                                        go_simp
                                        with_reducible rfl
                                      rotate_left
                                      · simp only [Act.put, List.setIfInBounds_toArray, List.set_cons_zero, List.set_cons_succ, i64_w, i32_w]
                                        rfl
                                      refine one_ (i := 47) (N := some 282) #[true, true, true, true, true, true, true, true, true, true, true, true, true, true, true, true, true, true, true, true, true, true, true, true, true, true, true, true, true, true, true, true, true, true, true, true, true, true, true, true, true, true, true, true, true, true, true, true, true, false, false, false, false, false, false, false, false, false, false, false, false, false, false, false, false, false, false, false, false, false, false, false, false, false, false, false, false] rfl rfl (by kernel_rfl) (by decide) (fun K_ hK => ?_)
                                      refine goes_ Try.func11 (by kernel_rfl) rfl #[.pointer (some ⟨bw, 0, none⟩)] (by rfl) rfl rfl (by simp only [List.map_toArray, List.map_cons, List.map_nil]; rfl) ?_
                                      with_reducible refine (top11 bw mw (i + 1) sw' _ HPW.out.drew.hw).mono ?_
                                      rintro e wq4 ⟨rfl, rfl⟩
                                      refine ⟨_, rfl, ?_⟩
                                      refine hK.out _ _ ⟨hHeld.1, hHeld.2.1, hHeld.2.2.1, hHeld.2.2.2⟩ (fun hHeld => ?_)
                                      clear hK K_
                                      refine norm_ (a' := ?_) ?_ ?_
                                      rotate_left
                                      · show Act.put _ (some 282) _ = _
                                        simp only [Act.put, List.setIfInBounds_toArray, List.set_cons_zero, List.set_cons_succ, i64_w, i32_w]
                                        rfl
                                      refine pure_ (i := 49) (N := some 284) (v := ?_) (a' := ?_) #[true, true, true, true, true, true, true, true, true, true, true, true, true, true, true, true, true, true, true, true, true, true, true, true, true, true, true, true, true, true, true, true, true, true, true, true, true, true, true, true, true, true, true, true, true, true, true, true, true, true, false, false, false, false, false, false, false, false, false, false, false, false, false, false, false, false, false, false, false, false, false, false, false, false, false, false, false] rfl rfl (by kernel_rfl) (fun _ _ _ h => h) (Or.inl ⟨by rfl, ?_⟩) ?_ ?_
                                      rotate_left
                                      · intro w'
                                        go_simp
                                        with_reducible rfl
                                      rotate_left
                                      · simp only [Act.put, List.setIfInBounds_toArray, List.set_cons_zero, List.set_cons_succ, i64_w, i32_w]
                                        rfl
                                      refine pure_ (i := 50) (N := some 285) (v := ?_) (a' := ?_) #[true, true, true, true, true, true, true, true, true, true, true, true, true, true, true, true, true, true, true, true, true, true, true, true, true, true, true, true, true, true, true, true, true, true, true, true, true, true, true, true, true, true, true, true, true, true, true, true, true, true, true, false, false, false, false, false, false, false, false, false, false, false, false, false, false, false, false, false, false, false, false, false, false, false, false, false, false] rfl rfl (by kernel_rfl) (fun _ _ _ h => h) (Or.inl ⟨by rfl, ?_⟩) ?_ ?_
                                      rotate_left
                                      · intro w'
                                        go_simp
                                        with_reducible rfl
                                      rotate_left
                                      · simp only [Act.put, List.setIfInBounds_toArray, List.set_cons_zero, List.set_cons_succ, i64_w, i32_w]
                                        rfl
                                      refine pure_ (i := 51) (N := some 286) (v := ?_) (a' := ?_) #[true, true, true, true, true, true, true, true, true, true, true, true, true, true, true, true, true, true, true, true, true, true, true, true, true, true, true, true, true, true, true, true, true, true, true, true, true, true, true, true, true, true, true, true, true, true, true, true, true, true, true, true, false, false, false, false, false, false, false, false, false, false, false, false, false, false, false, false, false, false, false, false, false, false, false, false, false] rfl rfl (by kernel_rfl) (fun _ _ _ h => h) (Or.inl ⟨by rfl, ?_⟩) ?_ ?_
                                      rotate_left
                                      · intro w'
                                        go_simp
                                        with_reducible rfl
                                      rotate_left
                                      · simp only [Act.put, List.setIfInBounds_toArray, List.set_cons_zero, List.set_cons_succ, i64_w, i32_w]
                                        rfl
                                      refine pure_ (i := 53) (N := some 288) (v := ?_) (a' := ?_) #[true, true, true, true, true, true, true, true, true, true, true, true, true, true, true, true, true, true, true, true, true, true, true, true, true, true, true, true, true, true, true, true, true, true, true, true, true, true, true, true, true, true, true, true, true, true, true, true, true, true, true, true, false, true, false, false, false, false, false, false, false, false, false, false, false, false, false, false, false, false, false, false, false, false, false, false, false] rfl rfl (by kernel_rfl) (fun _ _ _ h => h) (Or.inl ⟨by rfl, ?_⟩) ?_ ?_
                                      rotate_left
                                      · intro w'
                                        go_simp
                                        with_reducible rfl
                                      rotate_left
                                      · simp only [Act.put, List.setIfInBounds_toArray, List.set_cons_zero, List.set_cons_succ, i64_w, i32_w]
                                        rfl
                                      refine pure_ (i := 54) (N := some 289) (v := ?_) (a' := ?_) #[true, true, true, true, true, true, true, true, true, true, true, true, true, true, true, true, true, true, true, true, true, true, true, true, true, true, true, true, true, true, true, true, true, true, true, true, true, true, true, true, true, true, true, true, true, true, true, true, true, true, true, true, false, true, true, false, false, false, false, false, false, false, false, false, false, false, false, false, false, false, false, false, false, false, false, false, false] rfl rfl (by kernel_rfl) (fun _ _ _ h => h) (Or.inl ⟨by rfl, ?_⟩) ?_ ?_
                                      rotate_left
                                      · intro w'
                                        go_simp
                                        with_reducible rfl
                                      rotate_left
                                      · simp only [Act.put, List.setIfInBounds_toArray, List.set_cons_zero, List.set_cons_succ, i64_w, i32_w]
                                        rfl
                                      refine pure_ (i := 55) (N := some 290) (v := ?_) (a' := ?_) #[true, true, true, true, true, true, true, true, true, true, true, true, true, true, true, true, true, true, true, true, true, true, true, true, true, true, true, true, true, true, true, true, true, true, true, true, true, true, true, true, true, true, true, true, true, true, true, true, true, true, true, true, false, true, true, true, false, false, false, false, false, false, false, false, false, false, false, false, false, false, false, false, false, false, false, false, false] rfl rfl (by kernel_rfl) (fun _ _ _ h => h) (Or.inl ⟨by rfl, ?_⟩) ?_ ?_
                                      rotate_left
                                      · intro w'
                                        go_simp
                                        with_reducible rfl
                                      rotate_left
                                      · simp only [Act.put, List.setIfInBounds_toArray, List.set_cons_zero, List.set_cons_succ, i64_w, i32_w]
                                        rfl
                                      as_aux_lemma =>
                                        refine take_ (i := 52) (N := some 287) (v := ?_) (a' := ?_) #[true, true, true, true, true, true, true, true, true, true, true, true, true, true, true, true, true, true, true, true, true, true, true, true, true, true, true, true, true, true, true, true, true, true, true, true, true, true, true, true, true, true, true, true, true, true, true, true, true, true, true, true, true, true, true, true, false, false, false, false, false, false, false, false, false, false, false, false, false, false, false, false, false, false, false, false, false] rfl rfl (by kernel_rfl) (fun _ _ _ h => h) (Or.inl ⟨by rfl, ?_⟩) hHeld ?_ ?_
                                        rotate_left
                                        · rintro w' ⟨s0, s1, s2, s3⟩
                                          go_simp
                                          with_reducible rfl
                                        rotate_left
                                        · simp only [Act.put, List.setIfInBounds_toArray, List.set_cons_zero, List.set_cons_succ, i64_w, i32_w]
                                          rfl
                                        refine take_ (i := 56) (N := some 291) (v := ?_) (a' := ?_) #[true, true, true, true, true, true, true, true, true, true, true, true, true, true, true, true, true, true, true, true, true, true, true, true, true, true, true, true, true, true, true, true, true, true, true, true, true, true, true, true, true, true, true, true, true, true, true, true, true, true, true, true, true, true, true, true, true, false, false, false, false, false, false, false, false, false, false, false, false, false, false, false, false, false, false, false, false] rfl rfl (by kernel_rfl) (fun _ _ _ h => h) (Or.inl ⟨by rfl, ?_⟩) hHeld ?_ ?_
                                        rotate_left
                                        · rintro w' ⟨s0, s1, s2, s3⟩
                                          go_simp
                                          with_reducible rfl
                                        rotate_left
                                        · simp only [Act.put, List.setIfInBounds_toArray, List.set_cons_zero, List.set_cons_succ, i64_w, i32_w]
                                          rfl
                                        refine pure_ (i := 57) (N := some 292) (v := ?_) (a' := ?_) #[true, true, true, true, true, true, true, true, true, true, true, true, true, true, true, true, true, true, true, true, true, true, true, true, true, true, true, true, true, true, true, true, true, true, true, true, true, true, true, true, true, true, true, true, true, true, true, true, true, true, true, true, true, true, true, true, true, true, false, false, false, false, false, false, false, false, false, false, false, false, false, false, false, false, false, false, false] rfl rfl (by kernel_rfl) (fun _ _ _ h => h) (Or.inl ⟨by rfl, ?_⟩) ?_ ?_
                                        rotate_left
                                        · intro w'
                                          go_simp
                                          with_reducible rfl
                                        rotate_left
                                        · simp only [Act.put, List.setIfInBounds_toArray, List.set_cons_zero, List.set_cons_succ, i64_w, i32_w]
                                          rfl
                                        refine pure_ (i := 58) (N := some 293) (v := ?_) (a' := ?_) #[true, true, true, true, true, true, true, true, true, true, true, true, true, true, true, true, true, true, true, true, true, true, true, true, true, true, true, true, true, true, true, true, true, true, true, true, true, true, true, true, true, true, true, true, true, true, true, true, true, true, true, true, true, true, true, true, true, true, true, false, false, false, false, false, false, false, false, false, false, false, false, false, false, false, false, false, false] rfl rfl (by kernel_rfl) (fun _ _ _ h => h) (Or.inl ⟨by rfl, ?_⟩) ?_ ?_
                                        rotate_left
                                        · intro w'
                                          go_simp
                                          with_reducible rfl
                                        rotate_left
                                        · simp only [Act.put, List.setIfInBounds_toArray, List.set_cons_zero, List.set_cons_succ, i64_w, i32_w]
                                          rfl
                                        refine pure_ (i := 59) (N := some 294) (v := ?_) (a' := ?_) #[true, true, true, true, true, true, true, true, true, true, true, true, true, true, true, true, true, true, true, true, true, true, true, true, true, true, true, true, true, true, true, true, true, true, true, true, true, true, true, true, true, true, true, true, true, true, true, true, true, true, true, true, true, true, true, true, true, true, true, true, false, false, false, false, false, false, false, false, false, false, false, false, false, false, false, false, false] rfl rfl (by kernel_rfl) (fun _ _ _ h => h) (Or.inl ⟨by rfl, ?_⟩) ?_ ?_
                                        rotate_left
                                        · intro w'
                                          go_simp
                                          with_reducible rfl
                                        rotate_left
                                        · simp only [Act.put, List.setIfInBounds_toArray, List.set_cons_zero, List.set_cons_succ, i64_w, i32_w]
                                          rfl
                                        refine one_ (i := 60) (N := some 295) #[true, true, true, true, true, true, true, true, true, true, true, true, true, true, true, true, true, true, true, true, true, true, true, true, true, true, true, true, true, true, true, true, true, true, true, true, true, true, true, true, true, true, true, true, true, true, true, true, true, true, true, true, true, true, true, true, true, true, true, true, true, false, false, false, false, false, false, false, false, false, false, false, false, false, false, false, false] rfl rfl (by kernel_rfl) (by decide) (fun K_ hK => ?_)
                                        refine value_ (w1 := W.drew) (v := .slice A1 m3 c1) (by rfl) rfl ?_ ?_
                                        · have hLw := HLW.out.1
                                          rcases HSH1.out with ⟨e1, e2, e3, e4⟩ | ⟨ga, e1, e2⟩
                                          · subst e1 e2 e3 e4
                                            have h7 := HLW.out.2
                                            go_simp
                                          · subst e1
                                            have e5 := sl_ok e2
                                            go_simp
                                        refine hK.out _ _ ⟨hHeld.1, hHeld.2.1, hHeld.2.2.1, hHeld.2.2.2⟩ (fun hHeld => ?_)
                                        clear hK K_
                                        refine norm_ (a' := ?_) ?_ ?_
                                        rotate_left
                                        · show Act.put _ (some 295) _ = _
                                          simp only [Act.put, List.setIfInBounds_toArray, List.set_cons_zero, List.set_cons_succ, i64_w, i32_w]
                                          rfl
                                        refine one_ (i := 61) (N := some 296) #[true, true, true, true, true, true, true, true, true, true, true, true, true, true, true, true, true, true, true, true, true, true, true, true, true, true, true, true, true, true, true, true, true, true, true, true, true, true, true, true, true, true, true, true, true, true, true, true, true, true, true, true, true, true, true, true, true, true, true, true, true, true, false, false, false, false, false, false, false, false, false, false, false, false, false, false, false] rfl rfl (by kernel_rfl) (by decide) (fun K_ hK => ?_)
                                        refine goes_ Try.func12 (by kernel_rfl) rfl #[.slice A3 n3 c3, .slice A1 m3 c1] (by rfl) rfl rfl (by simp only [List.map_toArray, List.map_cons, List.map_nil]; rfl) ?_
                                        with_reducible refine (C12.out).mono ?_
                                        rintro e wq5 ⟨rfl, hb_⟩
                                        have BB5 : Aside0 (Below W.drew.heap.size W.drew wq5) := ⟨hb_⟩
                                        clear hb_
                                        refine ⟨_, rfl, ?_⟩
                                        refine hK.out _ _ ⟨(cell_b BB5.out HZd.out), (cell_b BB5.out HPW.out.drew.b3.cell), (cell_b BB5.out HPW.out.drew.b5.cell), (cell_b BB5.out HT3.out.1.cell)⟩ (fun hHeld => ?_)
                                        clear hK K_
                                        refine norm_ (a' := ?_) ?_ ?_
                                        rotate_left
                                        · show Act.put _ (some 296) _ = _
                                          simp only [Act.put, List.setIfInBounds_toArray, List.set_cons_zero, List.set_cons_succ, i64_w, i32_w]
                                          rfl
                                        refine pure_ (i := 62) (N := some 297) (v := ?_) (a' := ?_) #[true, true, true, true, true, true, true, true, true, true, true, true, true, true, true, true, true, true, true, true, true, true, true, true, true, true, true, true, true, true, true, true, true, true, true, true, true, true, true, true, true, true, true, true, true, true, true, true, true, true, true, true, true, true, true, true, true, true, true, true, true, true, true, false, false, false, false, false, false, false, false, false, false, false, false, false, false] rfl rfl (by kernel_rfl) (fun _ _ _ h => h) (Or.inl ⟨by rfl, ?_⟩) ?_ ?_
                                        rotate_left
                                        · intro w'
                                          go_simp
                                          with_reducible rfl
                                        rotate_left
                                        · simp only [Act.put, List.setIfInBounds_toArray, List.set_cons_zero, List.set_cons_succ, i64_w, i32_w]
                                          rfl
                                        as_aux_lemma =>
                                          refine pure_ (i := 63) (N := some 298) (v := ?_) (a' := ?_) #[true, true, true, true, true, true, true, true, true, true, true, true, true, true, true, true, true, true, true, true, true, true, true, true, true, true, true, true, true, true, true, true, true, true, true, true, true, true, true, true, true, true, true, true, true, true, true, true, true, true, true, true, true, true, true, true, true, true, true, true, true, true, true, true, false, false, false, false, false, false, false, false, false, false, false, false, false] rfl rfl (by kernel_rfl) (fun _ _ _ h => h) (Or.inl ⟨by rfl, ?_⟩) ?_ ?_
                                          rotate_left
                                          · intro w'
                                            go_simp
                                            with_reducible rfl
                                          rotate_left
                                          · simp only [Act.put, List.setIfInBounds_toArray, List.set_cons_zero, List.set_cons_succ, i64_w, i32_w]
                                            rfl
                                          refine pure_ (i := 64) (N := some 299) (v := ?_) (a' := ?_) #[true, true, true, true, true, true, true, true, true, true, true, true, true, true, true, true, true, true, true, true, true, true, true, true, true, true, true, true, true, true, true, true, true, true, true, true, true, true, true, true, true, true, true, true, true, true, true, true, true, true, true, true, true, true, true, true, true, true, true, true, true, true, true, true, true, false, false, false, false, false, false, false, false, false, false, false, false] rfl rfl (by kernel_rfl) (fun _ _ _ h => h) (Or.inl ⟨by rfl, ?_⟩) ?_ ?_
                                          rotate_left
                                          · intro w'
                                            go_simp
                                            with_reducible rfl
                                          rotate_left
                                          · simp only [Act.put, List.setIfInBounds_toArray, List.set_cons_zero, List.set_cons_succ, i64_w, i32_w]
                                            rfl
                                          refine pure_ (i := 65) (N := some 300) (v := ?_) (a' := ?_) #[true, true, true, true, true, true, true, true, true, true, true, true, true, true, true, true, true, true, true, true, true, true, true, true, true, true, true, true, true, true, true, true, true, true, true, true, true, true, true, true, true, true, true, true, true, true, true, true, true, true, true, true, true, true, true, true, true, true, true, true, true, true, true, true, true, true, false, false, false, false, false, false, false, false, false, false, false] rfl rfl (by kernel_rfl) (fun _ _ _ h => h) (Or.inl ⟨by rfl, ?_⟩) ?_ ?_
                                          rotate_left
                                          · intro w'
                                            go_simp
                                            with_reducible rfl
                                          rotate_left
                                          · simp only [Act.put, List.setIfInBounds_toArray, List.set_cons_zero, List.set_cons_succ, i64_w, i32_w]
                                            rfl
                                          refine pure_ (i := 66) (N := some 301) (v := ?_) (a' := ?_) #[true, true, true, true, true, true, true, true, true, true, true, true, true, true, true, true, true, true, true, true, true, true, true, true, true, true, true, true, true, true, true, true, true, true, true, true, true, true, true, true, true, true, true, true, true, true, true, true, true, true, true, true, true, true, true, true, true, true, true, true, true, true, true, true, true, true, true, false, false, false, false, false, false, false, false, false, false] rfl rfl (by kernel_rfl) (fun _ _ _ h => h) (Or.inl ⟨by rfl, ?_⟩) ?_ ?_
                                          rotate_left
                                          · intro w'
                                            go_simp
                                            with_reducible rfl
                                          rotate_left
                                          · simp only [Act.put, List.setIfInBounds_toArray, List.set_cons_zero, List.set_cons_succ, i64_w, i32_w]
                                            rfl
                                          refine pure_ (i := 67) (N := some 302) (v := ?_) (a' := ?_) #[true, true, true, true, true, true, true, true, true, true, true, true, true, true, true, true, true, true, true, true, true, true, true, true, true, true, true, true, true, true, true, true, true, true, true, true, true, true, true, true, true, true, true, true, true, true, true, true, true, true, true, true, true, true, true, true, true, true, true, true, true, true, true, true, true, true, true, true, false, false, false, false, false, false, false, false, false] rfl rfl (by kernel_rfl) (fun _ _ _ h => h) (Or.inl ⟨by rfl, ?_⟩) ?_ ?_
                                          rotate_left
                                          · intro w'
                                            go_simp
                                            with_reducible rfl
                                          rotate_left
                                          · simp only [Act.put, List.setIfInBounds_toArray, List.set_cons_zero, List.set_cons_succ, i64_w, i32_w]
                                            rfl
                                          refine pure_ (i := 68) (N := some 303) (v := ?_) (a' := ?_) #[true, true, true, true, true, true, true, true, true, true, true, true, true, true, true, true, true, true, true, true, true, true, true, true, true, true, true, true, true, true, true, true, true, true, true, true, true, true, true, true, true, true, true, true, true, true, true, true, true, true, true, true, true, true, true, true, true, true, true, true, true, true, true, true, true, true, true, true, true, false, false, false, false, false, false, false, false] rfl rfl (by kernel_rfl) (fun _ _ _ h => h) (Or.inl ⟨by rfl, ?_⟩) ?_ ?_
                                          rotate_left
                                          · intro w'
                                            go_simp
                                            with_reducible rfl
                                          rotate_left
                                          · simp only [Act.put, List.setIfInBounds_toArray, List.set_cons_zero, List.set_cons_succ, i64_w, i32_w]
                                            rfl
                                          refine pure_ (i := 73) (N := some 308) (v := ?_) (a' := ?_) #[true, true, true, true, true, true, true, true, true, true, true, true, true, true, true, true, true, true, true, true, true, true, true, true, true, true, true, true, true, true, true, true, true, true, true, true, true, true, true, true, true, true, true, true, true, true, true, true, true, true, true, true, true, true, true, true, true, true, true, true, true, true, true, true, true, true, true, true, true, false, false, false, false, true, false, false, false] rfl rfl (by kernel_rfl) (fun _ _ _ h => h) (Or.inl ⟨by rfl, ?_⟩) ?_ ?_
                                          rotate_left
                                          · intro w'
                                            go_simp
                                            with_reducible rfl
                                          rotate_left
                                          · simp only [Act.put, List.setIfInBounds_toArray, List.set_cons_zero, List.set_cons_succ, i64_w, i32_w]
                                            rfl
                                          refine take_ (i := 69) (N := some 304) (v := ?_) (a' := ?_) #[true, true, true, true, true, true, true, true, true, true, true, true, true, true, true, true, true, true, true, true, true, true, true, true, true, true, true, true, true, true, true, true, true, true, true, true, true, true, true, true, true, true, true, true, true, true, true, true, true, true, true, true, true, true, true, true, true, true, true, true, true, true, true, true, true, true, true, true, true, true, false, false, false, true, false, false, false] rfl rfl (by kernel_rfl) (fun _ _ _ h => h) (Or.inl ⟨by rfl, ?_⟩) hHeld ?_ ?_
                                          rotate_left
                                          · rintro w' ⟨s0, s1, s2, s3⟩
                                            go_simp
                                            with_reducible rfl
                                          rotate_left
                                          · simp only [Act.put, List.setIfInBounds_toArray, List.set_cons_zero, List.set_cons_succ, i64_w, i32_w]
                                            rfl
                                          as_aux_lemma =>
                                            refine pure_ (i := 70) (N := some 305) (v := ?_) (a' := ?_) #[true, true, true, true, true, true, true, true, true, true, true, true, true, true, true, true, true, true, true, true, true, true, true, true, true, true, true, true, true, true, true, true, true, true, true, true, true, true, true, true, true, true, true, true, true, true, true, true, true, true, true, true, true, true, true, true, true, true, true, true, true, true, true, true, true, true, true, true, true, true, true, false, false, true, false, false, false] rfl rfl (by kernel_rfl) (fun _ _ _ h => h) (Or.inl ⟨by rfl, ?_⟩) ?_ ?_
                                            rotate_left
                                            · intro w'
                                              go_simp
                                              with_reducible rfl
                                            rotate_left
                                            · simp only [Act.put, List.setIfInBounds_toArray, List.set_cons_zero, List.set_cons_succ, i64_w, i32_w]
                                              rfl
                                            refine pure_ (i := 71) (N := some 306) (v := ?_) (a' := ?_) #[true, true, true, true, true, true, true, true, true, true, true, true, true, true, true, true, true, true, true, true, true, true, true, true, true, true, true, true, true, true, true, true, true, true, true, true, true, true, true, true, true, true, true, true, true, true, true, true, true, true, true, true, true, true, true, true, true, true, true, true, true, true, true, true, true, true, true, true, true, true, true, true, false, true, false, false, false] rfl rfl (by kernel_rfl) (fun _ _ _ h => h) (Or.inl ⟨by rfl, ?_⟩) ?_ ?_
                                            rotate_left
                                            · intro w'
                                              go_simp
                                              with_reducible rfl
                                            rotate_left
                                            · simp only [Act.put, List.setIfInBounds_toArray, List.set_cons_zero, List.set_cons_succ, i64_w, i32_w]
                                              rfl
                                            refine one_ (i := 72) (N := some 307) #[true, true, true, true, true, true, true, true, true, true, true, true, true, true, true, true, true, true, true, true, true, true, true, true, true, true, true, true, true, true, true, true, true, true, true, true, true, true, true, true, true, true, true, true, true, true, true, true, true, true, true, true, true, true, true, true, true, true, true, true, true, true, true, true, true, true, true, true, true, true, true, true, true, true, false, false, false] rfl rfl (by kernel_rfl) (by decide) (fun K_ hK => ?_)
                                            refine goes_ Try.func13 (by kernel_rfl) rfl #[.pointer (some ⟨bw, 0, none⟩), .int .i64 (M : Int)] (by rfl) rfl rfl (by simp only [List.map_toArray, List.map_cons, List.map_nil]; rfl) ?_
                                            with_reducible refine ((miss_call HPW.out.drew BB5.out hii HMM.out)).mono ?_
                                            rintro e wq6 ⟨A7, c7, rfl, hrow7, hb_⟩
                                            have BB6 : Aside0 (Below W.drew.heap.size W.drew wq6) := ⟨BB5.out.trans (hb_.mono BB5.out.size)⟩
                                            have R7 := Aside0.mk (IR.of_row hrow7)
                                            clear hb_ hrow7
                                            rw [HLL.out.2] at R7
                                            rw [HLL.out.2, ← HLL.out.1]
                                            refine ⟨_, rfl, ?_⟩
                                            refine hK.out _ _ ⟨(cell_b BB6.out HZd.out), (cell_b BB6.out HPW.out.drew.b3.cell), (cell_b BB6.out HPW.out.drew.b5.cell), (cell_b BB6.out HT3.out.1.cell)⟩ (fun hHeld => ?_)
                                            clear hK K_
                                            refine norm_ (a' := ?_) ?_ ?_
                                            rotate_left
                                            · show Act.put _ (some 307) _ = _
                                              simp only [Act.put, List.setIfInBounds_toArray, List.set_cons_zero, List.set_cons_succ, i64_w, i32_w]
                                              rfl
                                            refine one_ (i := 74) (N := some 309) #[true, true, true, true, true, true, true, true, true, true, true, true, true, true, true, true, true, true, true, true, true, true, true, true, true, true, true, true, true, true, true, true, true, true, true, true, true, true, true, true, true, true, true, true, true, true, true, true, true, true, true, true, true, true, true, true, true, true, true, true, true, true, true, true, true, true, true, true, true, true, true, true, true, true, true, false, false] rfl rfl (by kernel_rfl) (by decide) (fun K_ hK => ?_)
                                            refine goes_ Try.func12 (by kernel_rfl) rfl #[.slice A7 n2 c7, .slice A2 n2 c2] (by rfl) rfl rfl (by simp only [List.map_toArray, List.map_cons, List.map_nil]; rfl) ?_
                                            with_reducible refine ((same_call HLL.out.1 HL9.out R7.out (IR.below (w := W.drew) (IR.below HRWm.out (Below.refl _ _).drew) BB6.out))).mono ?_
                                            rintro e wq7 ⟨rfl, hb_⟩
                                            have BB7 : Aside0 (Below W.drew.heap.size W.drew wq7) := ⟨BB6.out.trans (hb_.mono BB6.out.size)⟩
                                            clear hb_
                                            refine ⟨_, rfl, ?_⟩
                                            refine hK.out _ _ ⟨(cell_b BB7.out HZd.out), (cell_b BB7.out HPW.out.drew.b3.cell), (cell_b BB7.out HPW.out.drew.b5.cell), (cell_b BB7.out HT3.out.1.cell)⟩ (fun hHeld => ?_)
                                            clear hK K_
                                            refine norm_ (a' := ?_) ?_ ?_
                                            rotate_left
                                            · show Act.put _ (some 309) _ = _
                                              simp only [Act.put, List.setIfInBounds_toArray, List.set_cons_zero, List.set_cons_succ, i64_w, i32_w]
                                              rfl
                                            refine pure_ (i := 75) (N := some 310) (v := ?_) (a' := ?_) #[true, true, true, true, true, true, true, true, true, true, true, true, true, true, true, true, true, true, true, true, true, true, true, true, true, true, true, true, true, true, true, true, true, true, true, true, true, true, true, true, true, true, true, true, true, true, true, true, true, true, true, true, true, true, true, true, true, true, true, true, true, true, true, true, true, true, true, true, true, true, true, true, true, true, true, true, false] rfl rfl (by kernel_rfl) (fun _ _ _ h => h) (Or.inl ⟨by rfl, ?_⟩) ?_ ?_
                                            rotate_left
                                            · intro w'
                                              go_simp
                                              with_reducible rfl
                                            rotate_left
                                            · simp only [Act.put, List.setIfInBounds_toArray, List.set_cons_zero, List.set_cons_succ, i64_w, i32_w]
                                              rfl
                                            refine pure_ (i := 76) (N := some 311) (v := ?_) (a' := ?_) #[true, true, true, true, true, true, true, true, true, true, true, true, true, true, true, true, true, true, true, true, true, true, true, true, true, true, true, true, true, true, true, true, true, true, true, true, true, true, true, true, true, true, true, true, true, true, true, true, true, true, true, true, true, true, true, true, true, true, true, true, true, true, true, true, true, true, true, true, true, true, true, true, true, true, true, true, true] rfl rfl (by kernel_rfl) (fun _ _ _ h => h) (Or.inl ⟨by rfl, ?_⟩) ?_ ?_
                                            rotate_left
                                            · intro w'
                                              go_simp
                                              with_reducible rfl
                                            rotate_left
                                            · simp only [Act.put, List.setIfInBounds_toArray, List.set_cons_zero, List.set_cons_succ, i64_w, i32_w]
                                              rfl
                                            refine done_ (by kernel_rfl) ?_
                                            go_wp2_with fail
                                            all_goals
                                              go_meet
                                              exact ⟨rfl, below_drew BB7.out⟩
                        | some vk =>
                          obtain ⟨xx, gg, rfl, hxx, hgk, hgg⟩ := HPW.out.lk.yes k vk hfk
                          obtain ⟨e1, e2, e3, e4⟩ := HYY.out
                          rw [hfk] at e1 e2
                          rw [hgk] at e3 e4
                          simp only [Option.getD_some, Option.isSome_some] at e1 e2 e3 e4
                          subst e1 e2 e3 e4
                          have HGG : Aside0 (W.cell? ⟨gg, 0, none⟩ = some (.int .u8 (xx : Int))) := ⟨by simp [World.cell?, hgg]⟩
                          have hw8 : IntKind.u8.wrap (xx : Int) = (xx : Int) := by rw [IntKind.wrap_u8]; omega
                          clear hgk hgg HYY hfk
                          refine wp_noPanic ?_
                          refine start_ (n := 77) (S := fun w' => w'.cell? (x.add i) = some (.int .i64 z) ∧ w'.cell? ⟨B3, 0, none⟩ = some (.int .i64 sw'.fr) ∧ w'.cell? ⟨B3 + 1, 0, none⟩ = some (.int .i64 a2) ∧ w'.cell? ⟨H, 0, none⟩ = some (.slice A3 n3 c3) ∧ w'.cell? ⟨gg, 0, none⟩ = some (.int .u8 (xx : Int))) (ds := []) #[false, false, false, false, false, false, false, false, false, false, false, false, false, false, false, false, false, false, false, false, false, false, false, false, false, false, false, false, false, false, false, false, false, false, false, false, false, false, false, false, false, false, false, false, false, false, false, false, false, false, false, false, false, false, false, false, false, false, false, false, false, false, false, false, false, false, false, false, false, false, false, false, false, false, false, false, false] (by kernel_rfl) rfl rfl ⟨HZd.out, HPW.out.b3.cell, HPW.out.b5.cell, HT3.out.1.cell, HGG.out⟩ (fun hHeld => ?_)
                          refine pure_ (i := 0) (N := some 235) (v := ?_) (a' := ?_) #[true, false, false, false, false, false, false, false, false, false, false, false, false, false, false, false, false, false, false, false, false, false, false, false, false, false, false, false, false, false, false, false, false, false, false, false, false, false, false, false, false, false, false, false, false, false, false, false, false, false, false, false, false, false, false, false, false, false, false, false, false, false, false, false, false, false, false, false, false, false, false, false, false, false, false, false, false] rfl rfl (by kernel_rfl) (fun _ _ _ h => h) (Or.inl ⟨by rfl, ?_⟩) ?_ ?_
                          rotate_left
                          · intro w'
                            go_simp
                            with_reducible rfl
                          rotate_left
                          · simp only [Act.put, List.setIfInBounds_toArray, List.set_cons_zero, List.set_cons_succ, i64_w, i32_w]
                            rfl
                          refine pure_ (i := 1) (N := some 236) (v := ?_) (a' := ?_) #[true, true, false, false, false, false, false, false, false, false, false, false, false, false, false, false, false, false, false, false, false, false, false, false, false, false, false, false, false, false, false, false, false, false, false, false, false, false, false, false, false, false, false, false, false, false, false, false, false, false, false, false, false, false, false, false, false, false, false, false, false, false, false, false, false, false, false, false, false, false, false, false, false, false, false, false, false] rfl rfl (by kernel_rfl) (fun _ _ _ h => h) (Or.inl ⟨by rfl, ?_⟩) ?_ ?_
                          rotate_left
                          · intro w'
                            go_simp
                            with_reducible rfl
                          rotate_left
                          · simp only [Act.put, List.setIfInBounds_toArray, List.set_cons_zero, List.set_cons_succ, i64_w, i32_w]
                            rfl
                          refine pure_ (i := 2) (N := some 237) (v := ?_) (a' := ?_) #[true, true, true, false, false, false, false, false, false, false, false, false, false, false, false, false, false, false, false, false, false, false, false, false, false, false, false, false, false, false, false, false, false, false, false, false, false, false, false, false, false, false, false, false, false, false, false, false, false, false, false, false, false, false, false, false, false, false, false, false, false, false, false, false, false, false, false, false, false, false, false, false, false, false, false, false, false] rfl rfl (by kernel_rfl) (fun _ _ _ h => h) (Or.inl ⟨by rfl, ?_⟩) ?_ ?_
                          rotate_left
                          · intro w'
                            go_simp
                            with_reducible rfl
                          rotate_left
                          · simp only [Act.put, List.setIfInBounds_toArray, List.set_cons_zero, List.set_cons_succ, i64_w, i32_w]
                            rfl
                          refine pure_ (i := 3) (N := some 238) (v := ?_) (a' := ?_) #[true, true, true, true, false, false, false, false, false, false, false, false, false, false, false, false, false, false, false, false, false, false, false, false, false, false, false, false, false, false, false, false, false, false, false, false, false, false, false, false, false, false, false, false, false, false, false, false, false, false, false, false, false, false, false, false, false, false, false, false, false, false, false, false, false, false, false, false, false, false, false, false, false, false, false, false, false] rfl rfl (by kernel_rfl) (fun _ _ _ h => h) (Or.inl ⟨by rfl, ?_⟩) ?_ ?_
                          rotate_left
                          · intro w'
                            go_simp
                            with_reducible rfl
                          rotate_left
                          · simp only [Act.put, List.setIfInBounds_toArray, List.set_cons_zero, List.set_cons_succ, i64_w, i32_w]
                            rfl
                          refine pure_ (i := 4) (N := some 239) (v := ?_) (a' := ?_) #[true, true, true, true, true, false, false, false, false, false, false, false, false, false, false, false, false, false, false, false, false, false, false, false, false, false, false, false, false, false, false, false, false, false, false, false, false, false, false, false, false, false, false, false, false, false, false, false, false, false, false, false, false, false, false, false, false, false, false, false, false, false, false, false, false, false, false, false, false, false, false, false, false, false, false, false, false] rfl rfl (by kernel_rfl) (fun _ _ _ h => h) (Or.inl ⟨by rfl, ?_⟩) ?_ ?_
                          rotate_left
                          · intro w'
                            go_simp
                            with_reducible rfl
                          rotate_left
                          · simp only [Act.put, List.setIfInBounds_toArray, List.set_cons_zero, List.set_cons_succ, i64_w, i32_w]
                            rfl
                          refine pure_ (i := 5) (N := some 240) (v := ?_) (a' := ?_) #[true, true, true, true, true, true, false, false, false, false, false, false, false, false, false, false, false, false, false, false, false, false, false, false, false, false, false, false, false, false, false, false, false, false, false, false, false, false, false, false, false, false, false, false, false, false, false, false, false, false, false, false, false, false, false, false, false, false, false, false, false, false, false, false, false, false, false, false, false, false, false, false, false, false, false, false, false] rfl rfl (by kernel_rfl) (fun _ _ _ h => h) (Or.inl ⟨by rfl, ?_⟩) ?_ ?_
                          rotate_left
                          · intro w'
                            go_simp
                            with_reducible rfl
                          rotate_left
                          · simp only [Act.put, List.setIfInBounds_toArray, List.set_cons_zero, List.set_cons_succ, i64_w, i32_w]
                            rfl
                          refine pure_ (i := 6) (N := some 241) (v := ?_) (a' := ?_) #[true, true, true, true, true, true, true, false, false, false, false, false, false, false, false, false, false, false, false, false, false, false, false, false, false, false, false, false, false, false, false, false, false, false, false, false, false, false, false, false, false, false, false, false, false, false, false, false, false, false, false, false, false, false, false, false, false, false, false, false, false, false, false, false, false, false, false, false, false, false, false, false, false, false, false, false, false] rfl rfl (by kernel_rfl) (fun _ _ _ h => h) (Or.inl ⟨by rfl, ?_⟩) ?_ ?_
                          rotate_left
                          · intro w'
                            go_simp
                            with_reducible rfl
                          rotate_left
                          · simp only [Act.put, List.setIfInBounds_toArray, List.set_cons_zero, List.set_cons_succ, i64_w, i32_w]
                            rfl
                          as_aux_lemma =>
                            refine pure_ (i := 7) (N := some 242) (v := ?_) (a' := ?_) #[true, true, true, true, true, true, true, true, false, false, false, false, false, false, false, false, false, false, false, false, false, false, false, false, false, false, false, false, false, false, false, false, false, false, false, false, false, false, false, false, false, false, false, false, false, false, false, false, false, false, false, false, false, false, false, false, false, false, false, false, false, false, false, false, false, false, false, false, false, false, false, false, false, false, false, false, false] rfl rfl (by kernel_rfl) (fun _ _ _ h => h) (Or.inl ⟨by rfl, ?_⟩) ?_ ?_
                            rotate_left
                            · intro w'
                              go_simp
                              with_reducible rfl
                            rotate_left
                            · simp only [Act.put, List.setIfInBounds_toArray, List.set_cons_zero, List.set_cons_succ, i64_w, i32_w]
                              rfl
                            refine pure_ (i := 8) (N := some 243) (v := ?_) (a' := ?_) #[true, true, true, true, true, true, true, true, true, false, false, false, false, false, false, false, false, false, false, false, false, false, false, false, false, false, false, false, false, false, false, false, false, false, false, false, false, false, false, false, false, false, false, false, false, false, false, false, false, false, false, false, false, false, false, false, false, false, false, false, false, false, false, false, false, false, false, false, false, false, false, false, false, false, false, false, false] rfl rfl (by kernel_rfl) (fun _ _ _ h => h) (Or.inl ⟨by rfl, ?_⟩) ?_ ?_
                            rotate_left
                            · intro w'
                              go_simp
                              with_reducible rfl
                            rotate_left
                            · simp only [Act.put, List.setIfInBounds_toArray, List.set_cons_zero, List.set_cons_succ, i64_w, i32_w]
                              rfl
                            refine pure_ (i := 9) (N := some 244) (v := ?_) (a' := ?_) #[true, true, true, true, true, true, true, true, true, true, false, false, false, false, false, false, false, false, false, false, false, false, false, false, false, false, false, false, false, false, false, false, false, false, false, false, false, false, false, false, false, false, false, false, false, false, false, false, false, false, false, false, false, false, false, false, false, false, false, false, false, false, false, false, false, false, false, false, false, false, false, false, false, false, false, false, false] rfl rfl (by kernel_rfl) (fun _ _ _ h => h) (Or.inl ⟨by rfl, ?_⟩) ?_ ?_
                            rotate_left
                            · intro w'
                              go_simp
                              with_reducible rfl
                            rotate_left
                            · simp only [Act.put, List.setIfInBounds_toArray, List.set_cons_zero, List.set_cons_succ, i64_w, i32_w]
                              rfl
                            refine pure_ (i := 10) (N := some 245) (v := ?_) (a' := ?_) #[true, true, true, true, true, true, true, true, true, true, true, false, false, false, false, false, false, false, false, false, false, false, false, false, false, false, false, false, false, false, false, false, false, false, false, false, false, false, false, false, false, false, false, false, false, false, false, false, false, false, false, false, false, false, false, false, false, false, false, false, false, false, false, false, false, false, false, false, false, false, false, false, false, false, false, false, false] rfl rfl (by kernel_rfl) (fun _ _ _ h => h) (Or.inl ⟨by rfl, ?_⟩) ?_ ?_
                            rotate_left
                            · intro w'
                              go_simp
                              with_reducible rfl
                            rotate_left
                            · simp only [Act.put, List.setIfInBounds_toArray, List.set_cons_zero, List.set_cons_succ, i64_w, i32_w]
                              rfl
                            refine pure_ (i := 11) (N := some 246) (v := ?_) (a' := ?_) #[true, true, true, true, true, true, true, true, true, true, true, true, false, false, false, false, false, false, false, false, false, false, false, false, false, false, false, false, false, false, false, false, false, false, false, false, false, false, false, false, false, false, false, false, false, false, false, false, false, false, false, false, false, false, false, false, false, false, false, false, false, false, false, false, false, false, false, false, false, false, false, false, false, false, false, false, false] rfl rfl (by kernel_rfl) (fun _ _ _ h => h) (Or.inl ⟨by rfl, ?_⟩) ?_ ?_
                            rotate_left
                            · intro w'
                              go_simp
                              with_reducible rfl
                            rotate_left
                            · simp only [Act.put, List.setIfInBounds_toArray, List.set_cons_zero, List.set_cons_succ, i64_w, i32_w]
                              rfl
                            refine pure_ (i := 12) (N := some 247) (v := ?_) (a' := ?_) #[true, true, true, true, true, true, true, true, true, true, true, true, true, false, false, false, false, false, false, false, false, false, false, false, false, false, false, false, false, false, false, false, false, false, false, false, false, false, false, false, false, false, false, false, false, false, false, false, false, false, false, false, false, false, false, false, false, false, false, false, false, false, false, false, false, false, false, false, false, false, false, false, false, false, false, false, false] rfl rfl (by kernel_rfl) (fun _ _ _ h => h) (Or.inl ⟨by rfl, ?_⟩) ?_ ?_
                            rotate_left
                            · intro w'
                              go_simp
                              with_reducible rfl
                            rotate_left
                            · simp only [Act.put, List.setIfInBounds_toArray, List.set_cons_zero, List.set_cons_succ, i64_w, i32_w]
                              rfl
                            refine pure_ (i := 13) (N := some 248) (v := ?_) (a' := ?_) #[true, true, true, true, true, true, true, true, true, true, true, true, true, true, false, false, false, false, false, false, false, false, false, false, false, false, false, false, false, false, false, false, false, false, false, false, false, false, false, false, false, false, false, false, false, false, false, false, false, false, false, false, false, false, false, false, false, false, false, false, false, false, false, false, false, false, false, false, false, false, false, false, false, false, false, false, false] rfl rfl (by kernel_rfl) (fun _ _ _ h => h) (Or.inl ⟨by rfl, ?_⟩) ?_ ?_
                            rotate_left
                            · intro w'
                              go_simp
                              with_reducible rfl
                            rotate_left
                            · simp only [Act.put, List.setIfInBounds_toArray, List.set_cons_zero, List.set_cons_succ, i64_w, i32_w]
                              rfl
                            refine pure_ (i := 14) (N := some 249) (v := ?_) (a' := ?_) #[true, true, true, true, true, true, true, true, true, true, true, true, true, true, true, false, false, false, false, false, false, false, false, false, false, false, false, false, false, false, false, false, false, false, false, false, false, false, false, false, false, false, false, false, false, false, false, false, false, false, false, false, false, false, false, false, false, false, false, false, false, false, false, false, false, false, false, false, false, false, false, false, false, false, false, false, false] rfl rfl (by kernel_rfl) (fun _ _ _ h => h) (Or.inl ⟨by rfl, ?_⟩) ?_ ?_
                            rotate_left
                            · intro w'
                              go_simp
                              with_reducible rfl
                            rotate_left
                            · simp only [Act.put, List.setIfInBounds_toArray, List.set_cons_zero, List.set_cons_succ, i64_w, i32_w]
                              rfl
                            as_aux_lemma =>
                              refine pure_ (i := 15) (N := some 250) (v := ?_) (a' := ?_) #[true, true, true, true, true, true, true, true, true, true, true, true, true, true, true, true, false, false, false, false, false, false, false, false, false, false, false, false, false, false, false, false, false, false, false, false, false, false, false, false, false, false, false, false, false, false, false, false, false, false, false, false, false, false, false, false, false, false, false, false, false, false, false, false, false, false, false, false, false, false, false, false, false, false, false, false, false] rfl rfl (by kernel_rfl) (fun _ _ _ h => h) (Or.inl ⟨by rfl, ?_⟩) ?_ ?_
                              rotate_left
                              · intro w'
                                go_simp
                                with_reducible rfl
                              rotate_left
                              · simp only [Act.put, List.setIfInBounds_toArray, List.set_cons_zero, List.set_cons_succ, i64_w, i32_w]
                                rfl
                              refine pure_ (i := 16) (N := some 251) (v := ?_) (a' := ?_) #[true, true, true, true, true, true, true, true, true, true, true, true, true, true, true, true, true, false, false, false, false, false, false, false, false, false, false, false, false, false, false, false, false, false, false, false, false, false, false, false, false, false, false, false, false, false, false, false, false, false, false, false, false, false, false, false, false, false, false, false, false, false, false, false, false, false, false, false, false, false, false, false, false, false, false, false, false] rfl rfl (by kernel_rfl) (fun _ _ _ h => h) (Or.inl ⟨by rfl, ?_⟩) ?_ ?_
                              rotate_left
                              · intro w'
                                go_simp
                                with_reducible rfl
                              rotate_left
                              · simp only [Act.put, List.setIfInBounds_toArray, List.set_cons_zero, List.set_cons_succ, i64_w, i32_w]
                                rfl
                              refine pure_ (i := 17) (N := some 252) (v := ?_) (a' := ?_) #[true, true, true, true, true, true, true, true, true, true, true, true, true, true, true, true, true, true, false, false, false, false, false, false, false, false, false, false, false, false, false, false, false, false, false, false, false, false, false, false, false, false, false, false, false, false, false, false, false, false, false, false, false, false, false, false, false, false, false, false, false, false, false, false, false, false, false, false, false, false, false, false, false, false, false, false, false] rfl rfl (by kernel_rfl) (fun _ _ _ h => h) (Or.inl ⟨by rfl, ?_⟩) ?_ ?_
                              rotate_left
                              · intro w'
                                go_simp
                                with_reducible rfl
                              rotate_left
                              · simp only [Act.put, List.setIfInBounds_toArray, List.set_cons_zero, List.set_cons_succ, i64_w, i32_w]
                                rfl
                              refine pure_ (i := 18) (N := some 253) (v := ?_) (a' := ?_) #[true, true, true, true, true, true, true, true, true, true, true, true, true, true, true, true, true, true, true, false, false, false, false, false, false, false, false, false, false, false, false, false, false, false, false, false, false, false, false, false, false, false, false, false, false, false, false, false, false, false, false, false, false, false, false, false, false, false, false, false, false, false, false, false, false, false, false, false, false, false, false, false, false, false, false, false, false] rfl rfl (by kernel_rfl) (fun _ _ _ h => h) (Or.inl ⟨by rfl, ?_⟩) ?_ ?_
                              rotate_left
                              · intro w'
                                go_simp
                                with_reducible rfl
                              rotate_left
                              · simp only [Act.put, List.setIfInBounds_toArray, List.set_cons_zero, List.set_cons_succ, i64_w, i32_w]
                                rfl
                              refine pure_ (i := 19) (N := some 254) (v := ?_) (a' := ?_) #[true, true, true, true, true, true, true, true, true, true, true, true, true, true, true, true, true, true, true, true, false, false, false, false, false, false, false, false, false, false, false, false, false, false, false, false, false, false, false, false, false, false, false, false, false, false, false, false, false, false, false, false, false, false, false, false, false, false, false, false, false, false, false, false, false, false, false, false, false, false, false, false, false, false, false, false, false] rfl rfl (by kernel_rfl) (fun _ _ _ h => h) (Or.inl ⟨by rfl, ?_⟩) ?_ ?_
                              rotate_left
                              · intro w'
                                go_simp
                                with_reducible rfl
                              rotate_left
                              · simp only [Act.put, List.setIfInBounds_toArray, List.set_cons_zero, List.set_cons_succ, i64_w, i32_w]
                                rfl
                              refine pure_ (i := 20) (N := some 255) (v := ?_) (a' := ?_) #[true, true, true, true, true, true, true, true, true, true, true, true, true, true, true, true, true, true, true, true, true, false, false, false, false, false, false, false, false, false, false, false, false, false, false, false, false, false, false, false, false, false, false, false, false, false, false, false, false, false, false, false, false, false, false, false, false, false, false, false, false, false, false, false, false, false, false, false, false, false, false, false, false, false, false, false, false] rfl rfl (by kernel_rfl) (fun _ _ _ h => h) (Or.inl ⟨by rfl, ?_⟩) ?_ ?_
                              rotate_left
                              · intro w'
                                go_simp
                                with_reducible rfl
                              rotate_left
                              · simp only [Act.put, List.setIfInBounds_toArray, List.set_cons_zero, List.set_cons_succ, i64_w, i32_w]
                                rfl
                              refine pure_ (i := 21) (N := some 256) (v := ?_) (a' := ?_) #[true, true, true, true, true, true, true, true, true, true, true, true, true, true, true, true, true, true, true, true, true, true, false, false, false, false, false, false, false, false, false, false, false, false, false, false, false, false, false, false, false, false, false, false, false, false, false, false, false, false, false, false, false, false, false, false, false, false, false, false, false, false, false, false, false, false, false, false, false, false, false, false, false, false, false, false, false] rfl rfl (by kernel_rfl) (fun _ _ _ h => h) (Or.inl ⟨by rfl, ?_⟩) ?_ ?_
                              rotate_left
                              · intro w'
                                go_simp
                                with_reducible rfl
                              rotate_left
                              · simp only [Act.put, List.setIfInBounds_toArray, List.set_cons_zero, List.set_cons_succ, i64_w, i32_w]
                                rfl
                              refine pure_ (i := 22) (N := some 257) (v := ?_) (a' := ?_) #[true, true, true, true, true, true, true, true, true, true, true, true, true, true, true, true, true, true, true, true, true, true, true, false, false, false, false, false, false, false, false, false, false, false, false, false, false, false, false, false, false, false, false, false, false, false, false, false, false, false, false, false, false, false, false, false, false, false, false, false, false, false, false, false, false, false, false, false, false, false, false, false, false, false, false, false, false] rfl rfl (by kernel_rfl) (fun _ _ _ h => h) (Or.inl ⟨by rfl, ?_⟩) ?_ ?_
                              rotate_left
                              · intro w'
                                go_simp
                                with_reducible rfl
                              rotate_left
                              · simp only [Act.put, List.setIfInBounds_toArray, List.set_cons_zero, List.set_cons_succ, i64_w, i32_w]
                                rfl
                              as_aux_lemma =>
                                refine pure_ (i := 23) (N := some 258) (v := ?_) (a' := ?_) #[true, true, true, true, true, true, true, true, true, true, true, true, true, true, true, true, true, true, true, true, true, true, true, true, false, false, false, false, false, false, false, false, false, false, false, false, false, false, false, false, false, false, false, false, false, false, false, false, false, false, false, false, false, false, false, false, false, false, false, false, false, false, false, false, false, false, false, false, false, false, false, false, false, false, false, false, false] rfl rfl (by kernel_rfl) (fun _ _ _ h => h) (Or.inl ⟨by rfl, ?_⟩) ?_ ?_
                                rotate_left
                                · intro w'
                                  go_simp
                                  with_reducible rfl
                                rotate_left
                                · simp only [Act.put, List.setIfInBounds_toArray, List.set_cons_zero, List.set_cons_succ, i64_w, i32_w]
                                  rfl
                                refine pure_ (i := 24) (N := some 259) (v := ?_) (a' := ?_) #[true, true, true, true, true, true, true, true, true, true, true, true, true, true, true, true, true, true, true, true, true, true, true, true, true, false, false, false, false, false, false, false, false, false, false, false, false, false, false, false, false, false, false, false, false, false, false, false, false, false, false, false, false, false, false, false, false, false, false, false, false, false, false, false, false, false, false, false, false, false, false, false, false, false, false, false, false] rfl rfl (by kernel_rfl) (fun _ _ _ h => h) (Or.inl ⟨by rfl, ?_⟩) ?_ ?_
                                rotate_left
                                · intro w'
                                  go_simp
                                  with_reducible rfl
                                rotate_left
                                · simp only [Act.put, List.setIfInBounds_toArray, List.set_cons_zero, List.set_cons_succ, i64_w, i32_w]
                                  rfl
                                refine pure_ (i := 26) (N := some 261) (v := ?_) (a' := ?_) #[true, true, true, true, true, true, true, true, true, true, true, true, true, true, true, true, true, true, true, true, true, true, true, true, true, false, true, false, false, false, false, false, false, false, false, false, false, false, false, false, false, false, false, false, false, false, false, false, false, false, false, false, false, false, false, false, false, false, false, false, false, false, false, false, false, false, false, false, false, false, false, false, false, false, false, false, false] rfl rfl (by kernel_rfl) (fun _ _ _ h => h) (Or.inl ⟨by rfl, ?_⟩) ?_ ?_
                                rotate_left
                                · intro w'
                                  go_simp
                                  with_reducible rfl
                                rotate_left
                                · simp only [Act.put, List.setIfInBounds_toArray, List.set_cons_zero, List.set_cons_succ, i64_w, i32_w]
                                  rfl
                                refine take_ (i := 25) (N := some 260) (v := ?_) (a' := ?_) #[true, true, true, true, true, true, true, true, true, true, true, true, true, true, true, true, true, true, true, true, true, true, true, true, true, true, true, false, false, false, false, false, false, false, false, false, false, false, false, false, false, false, false, false, false, false, false, false, false, false, false, false, false, false, false, false, false, false, false, false, false, false, false, false, false, false, false, false, false, false, false, false, false, false, false, false, false] rfl rfl (by kernel_rfl) (fun _ _ _ h => h) (Or.inl ⟨by rfl, ?_⟩) hHeld ?_ ?_
                                rotate_left
                                · rintro w' ⟨s0, s1, s2, s3, s4⟩
                                  go_simp
                                  with_reducible rfl
                                rotate_left
                                · simp only [Act.put, List.setIfInBounds_toArray, List.set_cons_zero, List.set_cons_succ, i64_w, i32_w]
                                  rfl
                                refine take_ (i := 27) (N := some 262) (v := ?_) (a' := ?_) #[true, true, true, true, true, true, true, true, true, true, true, true, true, true, true, true, true, true, true, true, true, true, true, true, true, true, true, true, false, false, false, false, false, false, false, false, false, false, false, false, false, false, false, false, false, false, false, false, false, false, false, false, false, false, false, false, false, false, false, false, false, false, false, false, false, false, false, false, false, false, false, false, false, false, false, false, false] rfl rfl (by kernel_rfl) (fun _ _ _ h => h) (Or.inl ⟨by rfl, ?_⟩) hHeld ?_ ?_
                                rotate_left
                                · rintro w' ⟨s0, s1, s2, s3, s4⟩
                                  go_simp
                                  with_reducible rfl
                                rotate_left
                                · simp only [Act.put, List.setIfInBounds_toArray, List.set_cons_zero, List.set_cons_succ, i64_w, i32_w]
                                  rfl
                                refine pure_ (i := 28) (N := some 263) (v := ?_) (a' := ?_) #[true, true, true, true, true, true, true, true, true, true, true, true, true, true, true, true, true, true, true, true, true, true, true, true, true, true, true, true, true, false, false, false, false, false, false, false, false, false, false, false, false, false, false, false, false, false, false, false, false, false, false, false, false, false, false, false, false, false, false, false, false, false, false, false, false, false, false, false, false, false, false, false, false, false, false, false, false] rfl rfl (by kernel_rfl) (fun _ _ _ h => h) (Or.inl ⟨by rfl, ?_⟩) ?_ ?_
                                rotate_left
                                · intro w'
                                  go_simp
                                  with_reducible rfl
                                rotate_left
                                · simp only [Act.put, List.setIfInBounds_toArray, List.set_cons_zero, List.set_cons_succ, i64_w, i32_w]
                                  rfl
                                refine pure_ (i := 29) (N := some 264) (v := ?_) (a' := ?_) #[true, true, true, true, true, true, true, true, true, true, true, true, true, true, true, true, true, true, true, true, true, true, true, true, true, true, true, true, true, true, false, false, false, false, false, false, false, false, false, false, false, false, false, false, false, false, false, false, false, false, false, false, false, false, false, false, false, false, false, false, false, false, false, false, false, false, false, false, false, false, false, false, false, false, false, false, false] rfl rfl (by kernel_rfl) (fun _ _ _ h => h) (Or.inl ⟨by rfl, ?_⟩) ?_ ?_
                                rotate_left
                                · intro w'
                                  go_simp
                                  with_reducible rfl
                                rotate_left
                                · simp only [Act.put, List.setIfInBounds_toArray, List.set_cons_zero, List.set_cons_succ, i64_w, i32_w]
                                  rfl
                                refine pure_ (i := 30) (N := some 265) (v := ?_) (a' := ?_) #[true, true, true, true, true, true, true, true, true, true, true, true, true, true, true, true, true, true, true, true, true, true, true, true, true, true, true, true, true, true, true, false, false, false, false, false, false, false, false, false, false, false, false, false, false, false, false, false, false, false, false, false, false, false, false, false, false, false, false, false, false, false, false, false, false, false, false, false, false, false, false, false, false, false, false, false, false] rfl rfl (by kernel_rfl) (fun _ _ _ h => h) (Or.inl ⟨by rfl, ?_⟩) ?_ ?_
                                rotate_left
                                · intro w'
                                  go_simp
                                  with_reducible rfl
                                rotate_left
                                · simp only [Act.put, List.setIfInBounds_toArray, List.set_cons_zero, List.set_cons_succ, i64_w, i32_w]
                                  rfl
                                as_aux_lemma =>
                                  refine pure_ (i := 31) (N := some 266) (v := ?_) (a' := ?_) #[true, true, true, true, true, true, true, true, true, true, true, true, true, true, true, true, true, true, true, true, true, true, true, true, true, true, true, true, true, true, true, true, false, false, false, false, false, false, false, false, false, false, false, false, false, false, false, false, false, false, false, false, false, false, false, false, false, false, false, false, false, false, false, false, false, false, false, false, false, false, false, false, false, false, false, false, false] rfl rfl (by kernel_rfl) (fun _ _ _ h => h) (Or.inl ⟨by rfl, ?_⟩) ?_ ?_
                                  rotate_left
                                  · intro w'
                                    go_simp
                                    with_reducible rfl
                                  rotate_left
                                  · simp only [Act.put, List.setIfInBounds_toArray, List.set_cons_zero, List.set_cons_succ, i64_w, i32_w]
                                    rfl
                                  refine pure_ (i := 32) (N := some 267) (v := ?_) (a' := ?_) #[true, true, true, true, true, true, true, true, true, true, true, true, true, true, true, true, true, true, true, true, true, true, true, true, true, true, true, true, true, true, true, true, true, false, false, false, false, false, false, false, false, false, false, false, false, false, false, false, false, false, false, false, false, false, false, false, false, false, false, false, false, false, false, false, false, false, false, false, false, false, false, false, false, false, false, false, false] rfl rfl (by kernel_rfl) (fun _ _ _ h => h) (Or.inl ⟨by rfl, ?_⟩) ?_ ?_
                                  rotate_left
                                  · intro w'
                                    go_simp
                                    with_reducible rfl
                                  rotate_left
                                  · simp only [Act.put, List.setIfInBounds_toArray, List.set_cons_zero, List.set_cons_succ, i64_w, i32_w]
                                    rfl
                                  refine pure_ (i := 33) (N := some 268) (v := ?_) (a' := ?_) #[true, true, true, true, true, true, true, true, true, true, true, true, true, true, true, true, true, true, true, true, true, true, true, true, true, true, true, true, true, true, true, true, true, true, false, false, false, false, false, false, false, false, false, false, false, false, false, false, false, false, false, false, false, false, false, false, false, false, false, false, false, false, false, false, false, false, false, false, false, false, false, false, false, false, false, false, false] rfl rfl (by kernel_rfl) (fun _ _ _ h => h) (Or.inl ⟨by rfl, ?_⟩) ?_ ?_
                                  rotate_left
                                  · intro w'
                                    go_simp
                                    with_reducible rfl
                                  rotate_left
                                  · simp only [Act.put, List.setIfInBounds_toArray, List.set_cons_zero, List.set_cons_succ, i64_w, i32_w]
                                    rfl
                                  refine take_ (i := 35) (N := some 270) (v := ?_) (a' := ?_) #[true, true, true, true, true, true, true, true, true, true, true, true, true, true, true, true, true, true, true, true, true, true, true, true, true, true, true, true, true, true, true, true, true, true, false, true, false, false, false, false, false, false, false, false, false, false, false, false, false, false, false, false, false, false, false, false, false, false, false, false, false, false, false, false, false, false, false, false, false, false, false, false, false, false, false, false, false] rfl rfl (by kernel_rfl) (fun _ _ _ h => h) (Or.inl ⟨by rfl, ?_⟩) hHeld ?_ ?_
                                  rotate_left
                                  · rintro w' ⟨s0, s1, s2, s3, s4⟩
                                    go_simp
                                    with_reducible rfl
                                  rotate_left
                                  · simp only [Act.put, List.setIfInBounds_toArray, List.set_cons_zero, List.set_cons_succ, i64_w, i32_w]
                                    rfl
                                  refine one_ (i := 34) (N := some 269) #[true, true, true, true, true, true, true, true, true, true, true, true, true, true, true, true, true, true, true, true, true, true, true, true, true, true, true, true, true, true, true, true, true, true, true, true, false, false, false, false, false, false, false, false, false, false, false, false, false, false, false, false, false, false, false, false, false, false, false, false, false, false, false, false, false, false, false, false, false, false, false, false, false, false, false, false, false] rfl rfl (by kernel_rfl) (by decide) (fun K_ hK => ?_)
                                  refine goes_ Try.func36 (by kernel_rfl) rfl #[.pointer (some ⟨bw, 0, none⟩)] (by rfl) rfl rfl (by simp only [List.map_toArray, List.map_cons, List.map_nil]; rfl) ?_
                                  with_reducible refine (from36 bw mw (i + 1) sw' W.drew HPW.out.drew.hw).mono ?_
                                  rintro e wq1 ⟨rfl, rfl⟩
                                  refine ⟨_, rfl, ?_⟩
                                  refine hK.out _ _ ⟨hHeld.1, hHeld.2.1, hHeld.2.2.1, hHeld.2.2.2.1, hHeld.2.2.2.2⟩ (fun hHeld => ?_)
                                  clear hK K_
                                  refine norm_ (a' := ?_) ?_ ?_
                                  rotate_left
                                  · show Act.put _ (some 269) _ = _
                                    simp only [Act.put, List.setIfInBounds_toArray, List.set_cons_zero, List.set_cons_succ, i64_w, i32_w]
                                    rfl
                                  refine pure_ (i := 36) (N := some 271) (v := ?_) (a' := ?_) #[true, true, true, true, true, true, true, true, true, true, true, true, true, true, true, true, true, true, true, true, true, true, true, true, true, true, true, true, true, true, true, true, true, true, true, true, true, false, false, false, false, false, false, false, false, false, false, false, false, false, false, false, false, false, false, false, false, false, false, false, false, false, false, false, false, false, false, false, false, false, false, false, false, false, false, false, false] rfl rfl (by kernel_rfl) (fun _ _ _ h => h) (Or.inl ⟨by rfl, ?_⟩) ?_ ?_
                                  rotate_left
                                  · intro w'
                                    go_simp
                                    with_reducible rfl
                                  rotate_left
                                  · simp only [Act.put, List.setIfInBounds_toArray, List.set_cons_zero, List.set_cons_succ, i64_w, i32_w]
                                    rfl
                                  refine pure_ (i := 37) (N := some 272) (v := ?_) (a' := ?_) #[true, true, true, true, true, true, true, true, true, true, true, true, true, true, true, true, true, true, true, true, true, true, true, true, true, true, true, true, true, true, true, true, true, true, true, true, true, true, false, false, false, false, false, false, false, false, false, false, false, false, false, false, false, false, false, false, false, false, false, false, false, false, false, false, false, false, false, false, false, false, false, false, false, false, false, false, false] rfl rfl (by kernel_rfl) (fun _ _ _ h => h) (Or.inl ⟨by rfl, ?_⟩) ?_ ?_
                                  rotate_left
                                  · intro w'
                                    go_simp
                                    with_reducible rfl
                                  rotate_left
                                  · simp only [Act.put, List.setIfInBounds_toArray, List.set_cons_zero, List.set_cons_succ, i64_w, i32_w]
                                    rfl
                                  refine pure_ (i := 38) (N := some 273) (v := ?_) (a' := ?_) #[true, true, true, true, true, true, true, true, true, true, true, true, true, true, true, true, true, true, true, true, true, true, true, true, true, true, true, true, true, true, true, true, true, true, true, true, true, true, true, false, false, false, false, false, false, false, false, false, false, false, false, false, false, false, false, false, false, false, false, false, false, false, false, false, false, false, false, false, false, false, false, false, false, false, false, false, false] rfl rfl (by kernel_rfl) (fun _ _ _ h => h) (Or.inl ⟨by rfl, ?_⟩) ?_ ?_
                                  rotate_left
                                  · intro w'
                                    go_simp
                                    with_reducible rfl
                                  rotate_left
                                  · simp only [Act.put, List.setIfInBounds_toArray, List.set_cons_zero, List.set_cons_succ, i64_w, i32_w]
                                    rfl
                                  as_aux_lemma =>
                                    refine pure_ (i := 39) (N := some 274) (v := ?_) (a' := ?_) #[true, true, true, true, true, true, true, true, true, true, true, true, true, true, true, true, true, true, true, true, true, true, true, true, true, true, true, true, true, true, true, true, true, true, true, true, true, true, true, true, false, false, false, false, false, false, false, false, false, false, false, false, false, false, false, false, false, false, false, false, false, false, false, false, false, false, false, false, false, false, false, false, false, false, false, false, false] rfl rfl (by kernel_rfl) (fun _ _ _ h => h) (Or.inl ⟨by rfl, ?_⟩) ?_ ?_
                                    rotate_left
                                    · intro w'
                                      go_simp
                                      with_reducible rfl
                                    rotate_left
                                    · simp only [Act.put, List.setIfInBounds_toArray, List.set_cons_zero, List.set_cons_succ, i64_w, i32_w]
                                      rfl
                                    refine pure_ (i := 41) (N := some 276) (v := ?_) (a' := ?_) #[true, true, true, true, true, true, true, true, true, true, true, true, true, true, true, true, true, true, true, true, true, true, true, true, true, true, true, true, true, true, true, true, true, true, true, true, true, true, true, true, false, true, false, false, false, false, false, false, false, false, false, false, false, false, false, false, false, false, false, false, false, false, false, false, false, false, false, false, false, false, false, false, false, false, false, false, false] rfl rfl (by kernel_rfl) (fun _ _ _ h => h) (Or.inl ⟨by rfl, ?_⟩) ?_ ?_
                                    rotate_left
                                    · intro w'
                                      go_simp
                                      with_reducible rfl
                                    rotate_left
                                    · simp only [Act.put, List.setIfInBounds_toArray, List.set_cons_zero, List.set_cons_succ, i64_w, i32_w]
                                      rfl
                                    refine one_ (i := 40) (N := some 275) #[true, true, true, true, true, true, true, true, true, true, true, true, true, true, true, true, true, true, true, true, true, true, true, true, true, true, true, true, true, true, true, true, true, true, true, true, true, true, true, true, true, true, false, false, false, false, false, false, false, false, false, false, false, false, false, false, false, false, false, false, false, false, false, false, false, false, false, false, false, false, false, false, false, false, false, false, false] rfl rfl (by kernel_rfl) (by decide) (fun K_ hK => ?_)
                                    refine goes_ Try.func10 (by kernel_rfl) rfl #[.pointer (some ⟨bw, 0, none⟩)] (by rfl) rfl rfl (by simp only [List.map_toArray, List.map_cons, List.map_nil]; rfl) ?_
                                    with_reducible refine (whole10 bw mw (i + 1) sw' _ HPW.out.drew.hw).mono ?_
                                    rintro e wq2 ⟨rfl, rfl⟩
                                    refine ⟨_, rfl, ?_⟩
                                    refine hK.out _ _ ⟨hHeld.1, hHeld.2.1, hHeld.2.2.1, hHeld.2.2.2.1, hHeld.2.2.2.2⟩ (fun hHeld => ?_)
                                    clear hK K_
                                    refine norm_ (a' := ?_) ?_ ?_
                                    rotate_left
                                    · show Act.put _ (some 275) _ = _
                                      simp only [Act.put, List.setIfInBounds_toArray, List.set_cons_zero, List.set_cons_succ, i64_w, i32_w]
                                      rfl
                                    refine one_ (i := 42) (N := some 277) #[true, true, true, true, true, true, true, true, true, true, true, true, true, true, true, true, true, true, true, true, true, true, true, true, true, true, true, true, true, true, true, true, true, true, true, true, true, true, true, true, true, true, true, false, false, false, false, false, false, false, false, false, false, false, false, false, false, false, false, false, false, false, false, false, false, false, false, false, false, false, false, false, false, false, false, false, false] rfl rfl (by kernel_rfl) (by decide) (fun K_ hK => ?_)
                                    refine call_ 29 #[.pointer (some ⟨B3, 0, none⟩), .pointer (some ⟨mh + 1, 0, none⟩)] (by rfl) rfl ?_ ?_
                                    · have he := enters_ Try.func29 (by kernel_rfl) rfl #[.pointer (some ⟨B3, 0, none⟩), .pointer (some ⟨mh + 1, 0, none⟩)]
                                      unfold execOp
                                      simp [resolve, Deferred.ofValue, invoke, Act.eval, he]
                                    with_reducible refine (whole29 B3 (mh + 1) mh (i + 1) sw' _ HPW.out.drew.b3 HPW.out.drew.b9 HPW.out.drew.hm HPW.out.drew.iw hii).mono ?_
                                    rintro e wq3 ⟨rfl, rfl⟩
                                    refine ⟨_, rfl, ?_⟩
                                    refine hK.out _ _ ⟨hHeld.1, hHeld.2.1, hHeld.2.2.1, hHeld.2.2.2.1, hHeld.2.2.2.2⟩ (fun hHeld => ?_)
                                    clear hK K_
                                    refine norm_ (a' := ?_) ?_ ?_
                                    rotate_left
                                    · show Act.put _ (some 277) _ = _
                                      simp only [Act.put, List.setIfInBounds_toArray, List.set_cons_zero, List.set_cons_succ, i64_w, i32_w]
                                      rfl
                                    refine pure_ (i := 43) (N := some 278) (v := ?_) (a' := ?_) #[true, true, true, true, true, true, true, true, true, true, true, true, true, true, true, true, true, true, true, true, true, true, true, true, true, true, true, true, true, true, true, true, true, true, true, true, true, true, true, true, true, true, true, true, false, false, false, false, false, false, false, false, false, false, false, false, false, false, false, false, false, false, false, false, false, false, false, false, false, false, false, false, false, false, false, false, false] rfl rfl (by kernel_rfl) (fun _ _ _ h => h) (Or.inl ⟨by rfl, ?_⟩) ?_ ?_
                                    rotate_left
                                    · intro w'
                                      go_simp
                                      with_reducible rfl
                                    rotate_left
                                    · simp only [Act.put, List.setIfInBounds_toArray, List.set_cons_zero, List.set_cons_succ, i64_w, i32_w]
                                      rfl
                                    refine pure_ (i := 44) (N := some 279) (v := ?_) (a' := ?_) #[true, true, true, true, true, true, true, true, true, true, true, true, true, true, true, true, true, true, true, true, true, true, true, true, true, true, true, true, true, true, true, true, true, true, true, true, true, true, true, true, true, true, true, true, true, false, false, false, false, false, false, false, false, false, false, false, false, false, false, false, false, false, false, false, false, false, false, false, false, false, false, false, false, false, false, false, false] rfl rfl (by kernel_rfl) (fun _ _ _ h => h) (Or.inl ⟨by rfl, ?_⟩) ?_ ?_
                                    rotate_left
                                    · intro w'
                                      go_simp
                                      with_reducible rfl
                                    rotate_left
                                    · simp only [Act.put, List.setIfInBounds_toArray, List.set_cons_zero, List.set_cons_succ, i64_w, i32_w]
                                      rfl
                                    refine pure_ (i := 45) (N := some 280) (v := ?_) (a' := ?_) #[true, true, true, true, true, true, true, true, true, true, true, true, true, true, true, true, true, true, true, true, true, true, true, true, true, true, true, true, true, true, true, true, true, true, true, true, true, true, true, true, true, true, true, true, true, true, false, false, false, false, false, false, false, false, false, false, false, false, false, false, false, false, false, false, false, false, false, false, false, false, false, false, false, false, false, false, false] rfl rfl (by kernel_rfl) (fun _ _ _ h => h) (Or.inl ⟨by rfl, ?_⟩) ?_ ?_
                                    rotate_left
                                    · intro w'
                                      go_simp
                                      with_reducible rfl
                                    rotate_left
                                    · simp only [Act.put, List.setIfInBounds_toArray, List.set_cons_zero, List.set_cons_succ, i64_w, i32_w]
                                      rfl
                                    refine pure_ (i := 46) (N := some 281) (v := ?_) (a' := ?_) #[true, true, true, true, true, true, true, true, true, true, true, true, true, true, true, true, true, true, true, true, true, true, true, true, true, true, true, true, true, true, true, true, true, true, true, true, true, true, true, true, true, true, true, true, true, true, true, false, false, false, false, false, false, false, false, false, false, false, false, false, false, false, false, false, false, false, false, false, false, false, false, false, false, false, false, false, false] rfl rfl (by kernel_rfl) (fun _ _ _ h => h) (Or.inl ⟨by rfl, ?_⟩) ?_ ?_
                                    rotate_left
                                    · intro w'
                                      go_simp
                                      with_reducible rfl
                                    rotate_left
                                    · simp only [Act.put, List.setIfInBounds_toArray, List.set_cons_zero, List.set_cons_succ, i64_w, i32_w]
                                      rfl
                                    as_aux_lemma =>
                                      refine pure_ (i := 48) (N := some 283) (v := ?_) (a' := ?_) #[true, true, true, true, true, true, true, true, true, true, true, true, true, true, true, true, true, true, true, true, true, true, true, true, true, true, true, true, true, true, true, true, true, true, true, true, true, true, true, true, true, true, true, true, true, true, true, false, true, false, false, false, false, false, false, false, false, false, false, false, false, false, false, false, false, false, false, false, false, false, false, false, false, false, false, false, false] rfl rfl (by kernel_rfl) (fun _ _ _ h => h) (Or.inl ⟨by rfl, ?_⟩) ?_ ?_
                                      rotate_left
                                      · intro w'
                                        go_simp
                                        with_reducible rfl
                                      rotate_left
                                      · simp only [Act.put, List.setIfInBounds_toArray, List.set_cons_zero, List.set_cons_succ, i64_w, i32_w]
                                        rfl
                                      refine one_ (i := 47) (N := some 282) #[true, true, true, true, true, true, true, true, true, true, true, true, true, true, true, true, true, true, true, true, true, true, true, true, true, true, true, true, true, true, true, true, true, true, true, true, true, true, true, true, true, true, true, true, true, true, true, true, true, false, false, false, false, false, false, false, false, false, false, false, false, false, false, false, false, false, false, false, false, false, false, false, false, false, false, false, false] rfl rfl (by kernel_rfl) (by decide) (fun K_ hK => ?_)
                                      refine goes_ Try.func11 (by kernel_rfl) rfl #[.pointer (some ⟨bw, 0, none⟩)] (by rfl) rfl rfl (by simp only [List.map_toArray, List.map_cons, List.map_nil]; rfl) ?_
                                      with_reducible refine (top11 bw mw (i + 1) sw' _ HPW.out.drew.hw).mono ?_
                                      rintro e wq4 ⟨rfl, rfl⟩
                                      refine ⟨_, rfl, ?_⟩
                                      refine hK.out _ _ ⟨hHeld.1, hHeld.2.1, hHeld.2.2.1, hHeld.2.2.2.1, hHeld.2.2.2.2⟩ (fun hHeld => ?_)
                                      clear hK K_
                                      refine norm_ (a' := ?_) ?_ ?_
                                      rotate_left
                                      · show Act.put _ (some 282) _ = _
                                        simp only [Act.put, List.setIfInBounds_toArray, List.set_cons_zero, List.set_cons_succ, i64_w, i32_w]
                                        rfl
                                      refine pure_ (i := 49) (N := some 284) (v := ?_) (a' := ?_) #[true, true, true, true, true, true, true, true, true, true, true, true, true, true, true, true, true, true, true, true, true, true, true, true, true, true, true, true, true, true, true, true, true, true, true, true, true, true, true, true, true, true, true, true, true, true, true, true, true, true, false, false, false, false, false, false, false, false, false, false, false, false, false, false, false, false, false, false, false, false, false, false, false, false, false, false, false] rfl rfl (by kernel_rfl) (fun _ _ _ h => h) (Or.inl ⟨by rfl, ?_⟩) ?_ ?_
                                      rotate_left
                                      · intro w'
                                        go_simp
                                        with_reducible rfl
                                      rotate_left
                                      · simp only [Act.put, List.setIfInBounds_toArray, List.set_cons_zero, List.set_cons_succ, i64_w, i32_w]
                                        rfl
                                      refine pure_ (i := 50) (N := some 285) (v := ?_) (a' := ?_) #[true, true, true, true, true, true, true, true, true, true, true, true, true, true, true, true, true, true, true, true, true, true, true, true, true, true, true, true, true, true, true, true, true, true, true, true, true, true, true, true, true, true, true, true, true, true, true, true, true, true, true, false, false, false, false, false, false, false, false, false, false, false, false, false, false, false, false, false, false, false, false, false, false, false, false, false, false] rfl rfl (by kernel_rfl) (fun _ _ _ h => h) (Or.inl ⟨by rfl, ?_⟩) ?_ ?_
                                      rotate_left
                                      · intro w'
                                        go_simp
                                        with_reducible rfl
                                      rotate_left
                                      · simp only [Act.put, List.setIfInBounds_toArray, List.set_cons_zero, List.set_cons_succ, i64_w, i32_w]
                                        rfl
                                      refine pure_ (i := 51) (N := some 286) (v := ?_) (a' := ?_) #[true, true, true, true, true, true, true, true, true, true, true, true, true, true, true, true, true, true, true, true, true, true, true, true, true, true, true, true, true, true, true, true, true, true, true, true, true, true, true, true, true, true, true, true, true, true, true, true, true, true, true, true, false, false, false, false, false, false, false, false, false, false, false, false, false, false, false, false, false, false, false, false, false, false, false, false, false] rfl rfl (by kernel_rfl) (fun _ _ _ h => h) (Or.inl ⟨by rfl, ?_⟩) ?_ ?_
                                      rotate_left
                                      · intro w'
                                        go_simp
                                        with_reducible rfl
                                      rotate_left
                                      · simp only [Act.put, List.setIfInBounds_toArray, List.set_cons_zero, List.set_cons_succ, i64_w, i32_w]
                                        rfl
                                      refine pure_ (i := 53) (N := some 288) (v := ?_) (a' := ?_) #[true, true, true, true, true, true, true, true, true, true, true, true, true, true, true, true, true, true, true, true, true, true, true, true, true, true, true, true, true, true, true, true, true, true, true, true, true, true, true, true, true, true, true, true, true, true, true, true, true, true, true, true, false, true, false, false, false, false, false, false, false, false, false, false, false, false, false, false, false, false, false, false, false, false, false, false, false] rfl rfl (by kernel_rfl) (fun _ _ _ h => h) (Or.inl ⟨by rfl, ?_⟩) ?_ ?_
                                      rotate_left
                                      · intro w'
                                        go_simp
                                        with_reducible rfl
                                      rotate_left
                                      · simp only [Act.put, List.setIfInBounds_toArray, List.set_cons_zero, List.set_cons_succ, i64_w, i32_w]
                                        rfl
                                      refine pure_ (i := 54) (N := some 289) (v := ?_) (a' := ?_) #[true, true, true, true, true, true, true, true, true, true, true, true, true, true, true, true, true, true, true, true, true, true, true, true, true, true, true, true, true, true, true, true, true, true, true, true, true, true, true, true, true, true, true, true, true, true, true, true, true, true, true, true, false, true, true, false, false, false, false, false, false, false, false, false, false, false, false, false, false, false, false, false, false, false, false, false, false] rfl rfl (by kernel_rfl) (fun _ _ _ h => h) (Or.inl ⟨by rfl, ?_⟩) ?_ ?_
                                      rotate_left
                                      · intro w'
                                        go_simp
                                        with_reducible rfl
                                      rotate_left
                                      · simp only [Act.put, List.setIfInBounds_toArray, List.set_cons_zero, List.set_cons_succ, i64_w, i32_w]
                                        rfl
                                      refine pure_ (i := 55) (N := some 290) (v := ?_) (a' := ?_) #[true, true, true, true, true, true, true, true, true, true, true, true, true, true, true, true, true, true, true, true, true, true, true, true, true, true, true, true, true, true, true, true, true, true, true, true, true, true, true, true, true, true, true, true, true, true, true, true, true, true, true, true, false, true, true, true, false, false, false, false, false, false, false, false, false, false, false, false, false, false, false, false, false, false, false, false, false] rfl rfl (by kernel_rfl) (fun _ _ _ h => h) (Or.inl ⟨by rfl, ?_⟩) ?_ ?_
                                      rotate_left
                                      · intro w'
                                        go_simp
                                        with_reducible rfl
                                      rotate_left
                                      · simp only [Act.put, List.setIfInBounds_toArray, List.set_cons_zero, List.set_cons_succ, i64_w, i32_w]
                                        rfl
                                      as_aux_lemma =>
                                        refine take_ (i := 52) (N := some 287) (v := ?_) (a' := ?_) #[true, true, true, true, true, true, true, true, true, true, true, true, true, true, true, true, true, true, true, true, true, true, true, true, true, true, true, true, true, true, true, true, true, true, true, true, true, true, true, true, true, true, true, true, true, true, true, true, true, true, true, true, true, true, true, true, false, false, false, false, false, false, false, false, false, false, false, false, false, false, false, false, false, false, false, false, false] rfl rfl (by kernel_rfl) (fun _ _ _ h => h) (Or.inl ⟨by rfl, ?_⟩) hHeld ?_ ?_
                                        rotate_left
                                        · rintro w' ⟨s0, s1, s2, s3, s4⟩
                                          go_simp
                                          with_reducible rfl
                                        rotate_left
                                        · simp only [Act.put, List.setIfInBounds_toArray, List.set_cons_zero, List.set_cons_succ, i64_w, i32_w]
                                          rfl
                                        refine take_ (i := 56) (N := some 291) (v := ?_) (a' := ?_) #[true, true, true, true, true, true, true, true, true, true, true, true, true, true, true, true, true, true, true, true, true, true, true, true, true, true, true, true, true, true, true, true, true, true, true, true, true, true, true, true, true, true, true, true, true, true, true, true, true, true, true, true, true, true, true, true, true, false, false, false, false, false, false, false, false, false, false, false, false, false, false, false, false, false, false, false, false] rfl rfl (by kernel_rfl) (fun _ _ _ h => h) (Or.inl ⟨by rfl, ?_⟩) hHeld ?_ ?_
                                        rotate_left
                                        · rintro w' ⟨s0, s1, s2, s3, s4⟩
                                          go_simp
                                          with_reducible rfl
                                        rotate_left
                                        · simp only [Act.put, List.setIfInBounds_toArray, List.set_cons_zero, List.set_cons_succ, i64_w, i32_w]
                                          rfl
                                        refine pure_ (i := 57) (N := some 292) (v := ?_) (a' := ?_) #[true, true, true, true, true, true, true, true, true, true, true, true, true, true, true, true, true, true, true, true, true, true, true, true, true, true, true, true, true, true, true, true, true, true, true, true, true, true, true, true, true, true, true, true, true, true, true, true, true, true, true, true, true, true, true, true, true, true, false, false, false, false, false, false, false, false, false, false, false, false, false, false, false, false, false, false, false] rfl rfl (by kernel_rfl) (fun _ _ _ h => h) (Or.inl ⟨by rfl, ?_⟩) ?_ ?_
                                        rotate_left
                                        · intro w'
                                          go_simp
                                          with_reducible rfl
                                        rotate_left
                                        · simp only [Act.put, List.setIfInBounds_toArray, List.set_cons_zero, List.set_cons_succ, i64_w, i32_w]
                                          rfl
                                        refine pure_ (i := 58) (N := some 293) (v := ?_) (a' := ?_) #[true, true, true, true, true, true, true, true, true, true, true, true, true, true, true, true, true, true, true, true, true, true, true, true, true, true, true, true, true, true, true, true, true, true, true, true, true, true, true, true, true, true, true, true, true, true, true, true, true, true, true, true, true, true, true, true, true, true, true, false, false, false, false, false, false, false, false, false, false, false, false, false, false, false, false, false, false] rfl rfl (by kernel_rfl) (fun _ _ _ h => h) (Or.inl ⟨by rfl, ?_⟩) ?_ ?_
                                        rotate_left
                                        · intro w'
                                          go_simp
                                          with_reducible rfl
                                        rotate_left
                                        · simp only [Act.put, List.setIfInBounds_toArray, List.set_cons_zero, List.set_cons_succ, i64_w, i32_w]
                                          rfl
                                        refine pure_ (i := 59) (N := some 294) (v := ?_) (a' := ?_) #[true, true, true, true, true, true, true, true, true, true, true, true, true, true, true, true, true, true, true, true, true, true, true, true, true, true, true, true, true, true, true, true, true, true, true, true, true, true, true, true, true, true, true, true, true, true, true, true, true, true, true, true, true, true, true, true, true, true, true, true, false, false, false, false, false, false, false, false, false, false, false, false, false, false, false, false, false] rfl rfl (by kernel_rfl) (fun _ _ _ h => h) (Or.inl ⟨by rfl, ?_⟩) ?_ ?_
                                        rotate_left
                                        · intro w'
                                          go_simp
                                          with_reducible rfl
                                        rotate_left
                                        · simp only [Act.put, List.setIfInBounds_toArray, List.set_cons_zero, List.set_cons_succ, i64_w, i32_w]
                                          rfl
                                        refine one_ (i := 60) (N := some 295) #[true, true, true, true, true, true, true, true, true, true, true, true, true, true, true, true, true, true, true, true, true, true, true, true, true, true, true, true, true, true, true, true, true, true, true, true, true, true, true, true, true, true, true, true, true, true, true, true, true, true, true, true, true, true, true, true, true, true, true, true, true, false, false, false, false, false, false, false, false, false, false, false, false, false, false, false, false] rfl rfl (by kernel_rfl) (by decide) (fun K_ hK => ?_)
                                        refine value_ (w1 := W.drew) (v := .slice A1 m3 c1) (by rfl) rfl ?_ ?_
                                        · have hLw := HLW.out.1
                                          rcases HSH1.out with ⟨e1, e2, e3, e4⟩ | ⟨ga, e1, e2⟩
                                          · subst e1 e2 e3 e4
                                            have h7 := HLW.out.2
                                            go_simp
                                          · subst e1
                                            have e5 := sl_ok e2
                                            go_simp
                                        refine hK.out _ _ ⟨hHeld.1, hHeld.2.1, hHeld.2.2.1, hHeld.2.2.2.1, hHeld.2.2.2.2⟩ (fun hHeld => ?_)
                                        clear hK K_
                                        refine norm_ (a' := ?_) ?_ ?_
                                        rotate_left
                                        · show Act.put _ (some 295) _ = _
                                          simp only [Act.put, List.setIfInBounds_toArray, List.set_cons_zero, List.set_cons_succ, i64_w, i32_w]
                                          rfl
                                        refine one_ (i := 61) (N := some 296) #[true, true, true, true, true, true, true, true, true, true, true, true, true, true, true, true, true, true, true, true, true, true, true, true, true, true, true, true, true, true, true, true, true, true, true, true, true, true, true, true, true, true, true, true, true, true, true, true, true, true, true, true, true, true, true, true, true, true, true, true, true, true, false, false, false, false, false, false, false, false, false, false, false, false, false, false, false] rfl rfl (by kernel_rfl) (by decide) (fun K_ hK => ?_)
                                        refine goes_ Try.func12 (by kernel_rfl) rfl #[.slice A3 n3 c3, .slice A1 m3 c1] (by rfl) rfl rfl (by simp only [List.map_toArray, List.map_cons, List.map_nil]; rfl) ?_
                                        with_reducible refine (C12.out).mono ?_
                                        rintro e wq5 ⟨rfl, hb_⟩
                                        have BB5 : Aside0 (Below W.drew.heap.size W.drew wq5) := ⟨hb_⟩
                                        clear hb_
                                        refine ⟨_, rfl, ?_⟩
                                        refine hK.out _ _ ⟨(cell_b BB5.out HZd.out), (cell_b BB5.out HPW.out.drew.b3.cell), (cell_b BB5.out HPW.out.drew.b5.cell), (cell_b BB5.out HT3.out.1.cell), (cell_b BB5.out HGG.out)⟩ (fun hHeld => ?_)
                                        clear hK K_
                                        refine norm_ (a' := ?_) ?_ ?_
                                        rotate_left
                                        · show Act.put _ (some 296) _ = _
                                          simp only [Act.put, List.setIfInBounds_toArray, List.set_cons_zero, List.set_cons_succ, i64_w, i32_w]
                                          rfl
                                        refine pure_ (i := 62) (N := some 297) (v := ?_) (a' := ?_) #[true, true, true, true, true, true, true, true, true, true, true, true, true, true, true, true, true, true, true, true, true, true, true, true, true, true, true, true, true, true, true, true, true, true, true, true, true, true, true, true, true, true, true, true, true, true, true, true, true, true, true, true, true, true, true, true, true, true, true, true, true, true, true, false, false, false, false, false, false, false, false, false, false, false, false, false, false] rfl rfl (by kernel_rfl) (fun _ _ _ h => h) (Or.inl ⟨by rfl, ?_⟩) ?_ ?_
                                        rotate_left
                                        · intro w'
                                          go_simp
                                          with_reducible rfl
                                        rotate_left
                                        · simp only [Act.put, List.setIfInBounds_toArray, List.set_cons_zero, List.set_cons_succ, i64_w, i32_w]
                                          rfl
                                        as_aux_lemma =>
                                          refine pure_ (i := 63) (N := some 298) (v := ?_) (a' := ?_) #[true, true, true, true, true, true, true, true, true, true, true, true, true, true, true, true, true, true, true, true, true, true, true, true, true, true, true, true, true, true, true, true, true, true, true, true, true, true, true, true, true, true, true, true, true, true, true, true, true, true, true, true, true, true, true, true, true, true, true, true, true, true, true, true, false, false, false, false, false, false, false, false, false, false, false, false, false] rfl rfl (by kernel_rfl) (fun _ _ _ h => h) (Or.inl ⟨by rfl, ?_⟩) ?_ ?_
                                          rotate_left
                                          · intro w'
                                            go_simp
                                            with_reducible rfl
                                          rotate_left
                                          · simp only [Act.put, List.setIfInBounds_toArray, List.set_cons_zero, List.set_cons_succ, i64_w, i32_w]
                                            rfl
                                          refine pure_ (i := 64) (N := some 299) (v := ?_) (a' := ?_) #[true, true, true, true, true, true, true, true, true, true, true, true, true, true, true, true, true, true, true, true, true, true, true, true, true, true, true, true, true, true, true, true, true, true, true, true, true, true, true, true, true, true, true, true, true, true, true, true, true, true, true, true, true, true, true, true, true, true, true, true, true, true, true, true, true, false, false, false, false, false, false, false, false, false, false, false, false] rfl rfl (by kernel_rfl) (fun _ _ _ h => h) (Or.inl ⟨by rfl, ?_⟩) ?_ ?_
                                          rotate_left
                                          · intro w'
                                            go_simp
                                            with_reducible rfl
                                          rotate_left
                                          · simp only [Act.put, List.setIfInBounds_toArray, List.set_cons_zero, List.set_cons_succ, i64_w, i32_w]
                                            rfl
                                          refine pure_ (i := 65) (N := some 300) (v := ?_) (a' := ?_) #[true, true, true, true, true, true, true, true, true, true, true, true, true, true, true, true, true, true, true, true, true, true, true, true, true, true, true, true, true, true, true, true, true, true, true, true, true, true, true, true, true, true, true, true, true, true, true, true, true, true, true, true, true, true, true, true, true, true, true, true, true, true, true, true, true, true, false, false, false, false, false, false, false, false, false, false, false] rfl rfl (by kernel_rfl) (fun _ _ _ h => h) (Or.inl ⟨by rfl, ?_⟩) ?_ ?_
                                          rotate_left
                                          · intro w'
                                            go_simp
                                            with_reducible rfl
                                          rotate_left
                                          · simp only [Act.put, List.setIfInBounds_toArray, List.set_cons_zero, List.set_cons_succ, i64_w, i32_w]
                                            rfl
                                          refine pure_ (i := 66) (N := some 301) (v := ?_) (a' := ?_) #[true, true, true, true, true, true, true, true, true, true, true, true, true, true, true, true, true, true, true, true, true, true, true, true, true, true, true, true, true, true, true, true, true, true, true, true, true, true, true, true, true, true, true, true, true, true, true, true, true, true, true, true, true, true, true, true, true, true, true, true, true, true, true, true, true, true, true, false, false, false, false, false, false, false, false, false, false] rfl rfl (by kernel_rfl) (fun _ _ _ h => h) (Or.inl ⟨by rfl, ?_⟩) ?_ ?_
                                          rotate_left
                                          · intro w'
                                            go_simp
                                            with_reducible rfl
                                          rotate_left
                                          · simp only [Act.put, List.setIfInBounds_toArray, List.set_cons_zero, List.set_cons_succ, i64_w, i32_w]
                                            rfl
                                          refine pure_ (i := 67) (N := some 302) (v := ?_) (a' := ?_) #[true, true, true, true, true, true, true, true, true, true, true, true, true, true, true, true, true, true, true, true, true, true, true, true, true, true, true, true, true, true, true, true, true, true, true, true, true, true, true, true, true, true, true, true, true, true, true, true, true, true, true, true, true, true, true, true, true, true, true, true, true, true, true, true, true, true, true, true, false, false, false, false, false, false, false, false, false] rfl rfl (by kernel_rfl) (fun _ _ _ h => h) (Or.inl ⟨by rfl, ?_⟩) ?_ ?_
                                          rotate_left
                                          · intro w'
                                            go_simp
                                            with_reducible rfl
                                          rotate_left
                                          · simp only [Act.put, List.setIfInBounds_toArray, List.set_cons_zero, List.set_cons_succ, i64_w, i32_w]
                                            rfl
                                          refine pure_ (i := 68) (N := some 303) (v := ?_) (a' := ?_) #[true, true, true, true, true, true, true, true, true, true, true, true, true, true, true, true, true, true, true, true, true, true, true, true, true, true, true, true, true, true, true, true, true, true, true, true, true, true, true, true, true, true, true, true, true, true, true, true, true, true, true, true, true, true, true, true, true, true, true, true, true, true, true, true, true, true, true, true, true, false, false, false, false, false, false, false, false] rfl rfl (by kernel_rfl) (fun _ _ _ h => h) (Or.inl ⟨by rfl, ?_⟩) ?_ ?_
                                          rotate_left
                                          · intro w'
                                            go_simp
                                            with_reducible rfl
                                          rotate_left
                                          · simp only [Act.put, List.setIfInBounds_toArray, List.set_cons_zero, List.set_cons_succ, i64_w, i32_w]
                                            rfl
                                          refine pure_ (i := 73) (N := some 308) (v := ?_) (a' := ?_) #[true, true, true, true, true, true, true, true, true, true, true, true, true, true, true, true, true, true, true, true, true, true, true, true, true, true, true, true, true, true, true, true, true, true, true, true, true, true, true, true, true, true, true, true, true, true, true, true, true, true, true, true, true, true, true, true, true, true, true, true, true, true, true, true, true, true, true, true, true, false, false, false, false, true, false, false, false] rfl rfl (by kernel_rfl) (fun _ _ _ h => h) (Or.inl ⟨by rfl, ?_⟩) ?_ ?_
                                          rotate_left
                                          · intro w'
                                            go_simp
                                            with_reducible rfl
                                          rotate_left
                                          · simp only [Act.put, List.setIfInBounds_toArray, List.set_cons_zero, List.set_cons_succ, i64_w, i32_w]
                                            rfl
                                          refine take_ (i := 69) (N := some 304) (v := ?_) (a' := ?_) #[true, true, true, true, true, true, true, true, true, true, true, true, true, true, true, true, true, true, true, true, true, true, true, true, true, true, true, true, true, true, true, true, true, true, true, true, true, true, true, true, true, true, true, true, true, true, true, true, true, true, true, true, true, true, true, true, true, true, true, true, true, true, true, true, true, true, true, true, true, true, false, false, false, true, false, false, false] rfl rfl (by kernel_rfl) (fun _ _ _ h => h) (Or.inl ⟨by rfl, ?_⟩) hHeld ?_ ?_
                                          rotate_left
                                          · rintro w' ⟨s0, s1, s2, s3, s4⟩
                                            go_simp
                                            with_reducible rfl
                                          rotate_left
                                          · simp only [Act.put, List.setIfInBounds_toArray, List.set_cons_zero, List.set_cons_succ, i64_w, i32_w]
                                            rfl
                                          as_aux_lemma =>
                                            refine pure_ (i := 70) (N := some 305) (v := ?_) (a' := ?_) #[true, true, true, true, true, true, true, true, true, true, true, true, true, true, true, true, true, true, true, true, true, true, true, true, true, true, true, true, true, true, true, true, true, true, true, true, true, true, true, true, true, true, true, true, true, true, true, true, true, true, true, true, true, true, true, true, true, true, true, true, true, true, true, true, true, true, true, true, true, true, true, false, false, true, false, false, false] rfl rfl (by kernel_rfl) (fun _ _ _ h => h) (Or.inl ⟨by rfl, ?_⟩) ?_ ?_
                                            rotate_left
                                            · intro w'
                                              go_simp
                                              with_reducible rfl
                                            rotate_left
                                            · simp only [Act.put, List.setIfInBounds_toArray, List.set_cons_zero, List.set_cons_succ, i64_w, i32_w]
                                              rfl
                                            refine pure_ (i := 71) (N := some 306) (v := ?_) (a' := ?_) #[true, true, true, true, true, true, true, true, true, true, true, true, true, true, true, true, true, true, true, true, true, true, true, true, true, true, true, true, true, true, true, true, true, true, true, true, true, true, true, true, true, true, true, true, true, true, true, true, true, true, true, true, true, true, true, true, true, true, true, true, true, true, true, true, true, true, true, true, true, true, true, true, false, true, false, false, false] rfl rfl (by kernel_rfl) (fun _ _ _ h => h) (Or.inl ⟨by rfl, ?_⟩) ?_ ?_
                                            rotate_left
                                            · intro w'
                                              go_simp
                                              with_reducible rfl
                                            rotate_left
                                            · simp only [Act.put, List.setIfInBounds_toArray, List.set_cons_zero, List.set_cons_succ, i64_w, i32_w]
                                              rfl
                                            refine one_ (i := 72) (N := some 307) #[true, true, true, true, true, true, true, true, true, true, true, true, true, true, true, true, true, true, true, true, true, true, true, true, true, true, true, true, true, true, true, true, true, true, true, true, true, true, true, true, true, true, true, true, true, true, true, true, true, true, true, true, true, true, true, true, true, true, true, true, true, true, true, true, true, true, true, true, true, true, true, true, true, true, false, false, false] rfl rfl (by kernel_rfl) (by decide) (fun K_ hK => ?_)
                                            refine goes_ Try.func13 (by kernel_rfl) rfl #[.pointer (some ⟨bw, 0, none⟩), .int .i64 (M : Int)] (by rfl) rfl rfl (by simp only [List.map_toArray, List.map_cons, List.map_nil]; rfl) ?_
                                            with_reducible refine ((miss_call HPW.out.drew BB5.out hii HMM.out)).mono ?_
                                            rintro e wq6 ⟨A7, c7, rfl, hrow7, hb_⟩
                                            have BB6 : Aside0 (Below W.drew.heap.size W.drew wq6) := ⟨BB5.out.trans (hb_.mono BB5.out.size)⟩
                                            have R7 := Aside0.mk (IR.of_row hrow7)
                                            clear hb_ hrow7
                                            rw [HLL.out.2] at R7
                                            rw [HLL.out.2, ← HLL.out.1]
                                            refine ⟨_, rfl, ?_⟩
                                            refine hK.out _ _ ⟨(cell_b BB6.out HZd.out), (cell_b BB6.out HPW.out.drew.b3.cell), (cell_b BB6.out HPW.out.drew.b5.cell), (cell_b BB6.out HT3.out.1.cell), (cell_b BB6.out HGG.out)⟩ (fun hHeld => ?_)
                                            clear hK K_
                                            refine norm_ (a' := ?_) ?_ ?_
                                            rotate_left
                                            · show Act.put _ (some 307) _ = _
                                              simp only [Act.put, List.setIfInBounds_toArray, List.set_cons_zero, List.set_cons_succ, i64_w, i32_w]
                                              rfl
                                            refine one_ (i := 74) (N := some 309) #[true, true, true, true, true, true, true, true, true, true, true, true, true, true, true, true, true, true, true, true, true, true, true, true, true, true, true, true, true, true, true, true, true, true, true, true, true, true, true, true, true, true, true, true, true, true, true, true, true, true, true, true, true, true, true, true, true, true, true, true, true, true, true, true, true, true, true, true, true, true, true, true, true, true, true, false, false] rfl rfl (by kernel_rfl) (by decide) (fun K_ hK => ?_)
                                            refine goes_ Try.func12 (by kernel_rfl) rfl #[.slice A7 n2 c7, .slice A2 n2 c2] (by rfl) rfl rfl (by simp only [List.map_toArray, List.map_cons, List.map_nil]; rfl) ?_
                                            with_reducible refine ((same_call HLL.out.1 HL9.out R7.out (IR.below (w := W.drew) (IR.below HRWm.out (Below.refl _ _).drew) BB6.out))).mono ?_
                                            rintro e wq7 ⟨rfl, hb_⟩
                                            have BB7 : Aside0 (Below W.drew.heap.size W.drew wq7) := ⟨BB6.out.trans (hb_.mono BB6.out.size)⟩
                                            clear hb_
                                            refine ⟨_, rfl, ?_⟩
                                            refine hK.out _ _ ⟨(cell_b BB7.out HZd.out), (cell_b BB7.out HPW.out.drew.b3.cell), (cell_b BB7.out HPW.out.drew.b5.cell), (cell_b BB7.out HT3.out.1.cell), (cell_b BB7.out HGG.out)⟩ (fun hHeld => ?_)
                                            clear hK K_
                                            refine norm_ (a' := ?_) ?_ ?_
                                            rotate_left
                                            · show Act.put _ (some 309) _ = _
                                              simp only [Act.put, List.setIfInBounds_toArray, List.set_cons_zero, List.set_cons_succ, i64_w, i32_w]
                                              rfl
                                            refine pure_ (i := 75) (N := some 310) (v := ?_) (a' := ?_) #[true, true, true, true, true, true, true, true, true, true, true, true, true, true, true, true, true, true, true, true, true, true, true, true, true, true, true, true, true, true, true, true, true, true, true, true, true, true, true, true, true, true, true, true, true, true, true, true, true, true, true, true, true, true, true, true, true, true, true, true, true, true, true, true, true, true, true, true, true, true, true, true, true, true, true, true, false] rfl rfl (by kernel_rfl) (fun _ _ _ h => h) (Or.inl ⟨by rfl, ?_⟩) ?_ ?_
                                            rotate_left
                                            · intro w'
                                              go_simp
                                              with_reducible rfl
                                            rotate_left
                                            · simp only [Act.put, List.setIfInBounds_toArray, List.set_cons_zero, List.set_cons_succ, i64_w, i32_w]
                                              rfl
                                            refine pure_ (i := 76) (N := some 311) (v := ?_) (a' := ?_) #[true, true, true, true, true, true, true, true, true, true, true, true, true, true, true, true, true, true, true, true, true, true, true, true, true, true, true, true, true, true, true, true, true, true, true, true, true, true, true, true, true, true, true, true, true, true, true, true, true, true, true, true, true, true, true, true, true, true, true, true, true, true, true, true, true, true, true, true, true, true, true, true, true, true, true, true, true] rfl rfl (by kernel_rfl) (fun _ _ _ h => h) (Or.inl ⟨by rfl, ?_⟩) ?_ ?_
                                            rotate_left
                                            · intro w'
                                              go_simp
                                              with_reducible rfl
                                            rotate_left
                                            · simp only [Act.put, List.setIfInBounds_toArray, List.set_cons_zero, List.set_cons_succ, i64_w, i32_w]
                                              rfl
                                            refine done_ (by kernel_rfl) ?_
                                            go_wp2_with fail
                                            all_goals
                                              go_meet
                                              exact ⟨rfl, below_drew BB7.out⟩
                      case rest =>
                        obtain ⟨rfl, HBE⟩ := hcut
                        have hwi : IntKind.i64.wrap ((i : Int) + 1) = ((i + 1 : Nat) : Int) := by rw [IntKind.wrap_i64]; omega
                        go_wp2_with fail
                        have hq := HDD.out
                        subst hq
                        have HPe := HPW.out.below HBE.out
                        have hDl := (Array.getElem?_eq_some_iff.1 HDD3.out.2.1).1
                        refine ⟨⟨i + 1, D :: ds, sw', sv', rfl, by omega, by omega, ⟨⟨HPe.b3, HPe.b5, HPe.b6, HPe.b9, HPe.hw, HPe.iw, HPe.hv, HPe.iv, HPe.hm, HPe.lk, fun E hE => ?_, List.nodup_cons.2 ⟨HDD3.out.1, HPe.nd⟩, HPe.bel⟩⟩⟩, ?_⟩
                        · rcases List.mem_cons.1 hE with rfl | hE
                          · exact ⟨(HBE.out.block _ hDl).trans HDD3.out.2.1, HDD3.out.2.2⟩
                          · exact HPe.dd E hE
                        · simp [intOf]; omega
              · intro xk c kl yd yp w8 cnt2 hkey hlk hv hat hrg2 hltc hgr2 hsz2 hen
                obtain ⟨x', ex, rfl, hxw⟩ := Maps.keyOf_int_inv Try.underlying3 hkey
                cases ex
                have HXX := Aside0.mk (And.intro (HB7.out.grown (B := w6.heap.size) hgr2 HB7.out.size (fun j e => by cases e; exact Nat.le_of_eq HRU.out.symm)) (And.intro hltc (And.intro hrg.left_eq (tp_step HP.out.iw HTP.out hlk (wf_inv0 hxw)))))
                clear hltc hgr2 hsz2 hv hat hlk hkey hrg
                by_cases hxt : tt < xk
                · go_wp2_with fail
                  go_roundw
                  case rel => exact ⟨xk, _, _, rfl, ⟨by have := HXX.out.2.2.2; rwa [show max tt xk = xk by omega] at this⟩, ⟨hrg2⟩, ⟨HXX.out.1⟩⟩
                  case measure => rw [hrg2.left_eq, HXX.out.2.2.1]; exact HXX.out.2.1
                · have hxt' : xk ≤ tt := by omega
                  go_wp2_with fail
                  go_roundw
                  case rel => exact ⟨tt, _, _, rfl, ⟨by have := HXX.out.2.2.2; rwa [show max tt xk = tt by omega] at this⟩, ⟨hrg2⟩, ⟨HXX.out.1⟩⟩
                  case measure => rw [hrg2.left_eq, HXX.out.2.2.1]; exact HXX.out.2.1
      · have hkl : (i : Int) < (len : Int) := by omega
        have hk3 : ¬ ((i : Int) < 60) := by omega
        go_wp2_with fail
        refine (awake14 wr).mono ?_
        rintro e w5 ⟨rfl, hb⟩
        have HP5 := HP.out.below hb
        have hc6 := HP5.b6.cell
        have hf6 := HP5.b6.frozen
        have HQ5 := Aside0.mk HP5
        clear HP5 hb
        go_wp2_with fail
        show LeavesInM Fence.wide 9 Try.prog Try.f6 _ (SameEnd w true) dd .returning _
        rw [HDD.out]
        exact leave_plays rfl HQ5.out (by have := HB3.out; omega) (by have := HO.out; omega)
    · have hkl : ¬ ((i : Int) < (len : Int)) := by omega
      go_wp2_with fail
      refine (awake14 wr).mono ?_
      rintro e w5 ⟨rfl, hb⟩
      have HP5 := HP.out.below hb
      have hc6 := HP5.b6.cell
      have hf6 := HP5.b6.frozen
      have HQ5 := Aside0.mk HP5
      clear HP5 hb
      go_wp2_with fail
      show LeavesInM Fence.wide 9 Try.prog Try.f6 _ (SameEnd w true) dd .returning _
      rw [HDD.out]
      exact leave_plays rfl HQ5.out (by have := HB3.out; omega) (by have := HO.out; omega)

theorem plays_calls (a0 : Int) (a1 : Option Addr) (len cap : Nat) (a2 : Int) (w : World) (hR : RowI w a1 len) (hlen : len < 1000000000000000) : Calls Try.prog 6 #[.int .i64 a0, .slice a1 len cap, .int .i64 a2] w (SameEnd w true) := by
  obtain ⟨N, hbN, hN⟩ := bits_lt a0 16 65535 65535 rfl (by decide) (by decide)
  exact plays_n a0 a1 len cap a2 N w hbN hN hR hlen
end Go.Proofs.Ythoekmedkmonhaa.Wi
namespace Go.Proofs.Ythoekmedkmonhaa.windPlays
open Go.ChangeShapes Go.WideShapes Go.ChangeAt Go.RowKit Go.Proofs.YthoekmedkmonhaaW
open Go.ChangeMaps (open_string shut_string)
theorem own : ownKnob Try.prog.godebug = none := by kernel_rfl
theorem laidOut : laidOutB Try.prog = true := by kernel_rfl
def IsRow (k : IntKind) (w : World) (a : Option Addr) (len cap : Nat) (zs : List Int) : Prop :=
  (a = none ∧ len = 0 ∧ cap = 0 ∧ zs = []) ∨
  ∃ x, a = some x ∧ len ≤ cap ∧ cap ≤ maxLen ∧ zs.length = cap ∧ (∀ i, i < zs.length → w.cell? (x.add i) = some (.int k (zs.getD i 0))) ∧ ∀ n ∈ zs, (Lit.int k n).wf = true
theorem rowI {w : World} {a : Option Addr} {len cap : Nat} {zs : List Int} (h : IsRow .i64 w a len cap zs) : Wi.RowI w a len := by
  intro h0
  rcases h with ⟨_, rfl, _⟩ | ⟨x, rfl, h1, h2, h3, h4, _⟩
  · exact absurd h0 (Nat.lt_irrefl 0)
  · exact ⟨x, rfl, fun j hj => ⟨_, h4 j (by omega)⟩⟩
set_option maxRecDepth 100000 in
theorem lifted (os : Os) (started : os.Started) (H : Type) (enc : TypeId × Value → H) :
    ReturnsInHanded {} Try.checked os 6 .any (Rows.windPlaysSpec.pre6 enc Try.prog Try.f6 Rows.windPlaysRow.domain false) (Rows.windPlaysSpec.post enc Try.prog Try.f6 false true false false) := by
  refine returnsInHanded_of_change_sized (C := Try.checked) own started (by kernel_rfl) Try.func6
    (ChangeSpec.witness6 (enc := enc) (C := Try.checked) false ⟨#[], #[.int .i64 0, .slice none 0 0, .int .i64 0], []⟩ 8 (by kernel_rfl) (by kernel_rfl) (by kernel_rfl) (by kernel_rfl)) ?_
  intro W base args ds gs before hval0 hW hcnd hsz0 _
  have hsz : (DataW.weightsEach Try.prog (Try.f6.params.toList ++ Rows.windPlaysSpec.plain.varTypes Try.prog) (ds ++ gs)).all (· ≤ reachBytes) = true := hsz0
  have hval : ∀ (j : Nat) t v, Try.f6.params[j]? = some t → args[j]? = some v → Value.okWide Try.prog W .any base t v := hval0
  have hW' := hW
  obtain ⟨p, q, hA0, hV, rfl, hfz, hnd⟩ := hW
  have hA : DataW.TrodAll enc Try.prog W 0 (fun _ => true) true Try.f6.params.toList args.toList ds p := hA0
  rw [Try.params6] at hA hval hsz
  obtain ⟨v0, vs0, d0, ds0, p0, q0, hargs, rfl, rfl, h0, r0⟩ := trodAll_cons hA
  obtain ⟨v1, vs1, d1, ds1, p1, q1, rfl, rfl, rfl, h1, r1⟩ := trodAll_cons r0
  obtain ⟨v2, vs2, d2, ds2, p2, q2, rfl, rfl, rfl, h2, r2⟩ := trodAll_cons r1
  obtain ⟨rfl, rfl, rfl⟩ := trodAll_nil r2
  obtain rfl : args = #[v0, v1, v2] := by cases args; simp_all
  obtain ⟨rfl, rfl⟩ := trodVars_none hV
  obtain ⟨a0, rfl, rfl, rfl, w0⟩ := open_int Try.underlying3 (hval 0 3 v0 rfl rfl) h0
  obtain ⟨a1, len1, cap1, rfl⟩ := okWide_slice Try.underlying22 (hval 1 22 v1 rfl rfl)
  have k1 := h1
  have lt1 : ∀ x ∈ p1, x.block < W.heap.size := by obtain ⟨m, hm⟩ := k1; exact DataW.trod_lt m _ _ _ hm
  obtain ⟨z1, w1⟩ : ∃ zs, IsRow .i64 W a1 len1 cap1 zs := by
    obtain ⟨fuel, hf⟩ := h1
    rcases open_ints Try.underlying22 Try.underlying3 (by kernel_rfl) hf with ⟨hcs, _⟩ | ⟨x, l, c, zs, hcs, _, hl, hm, hz, _, hcell, hwz⟩
    · simp [Value.cells] at hcs
      obtain ⟨rfl, rfl, rfl⟩ := hcs
      exact ⟨[], .inl ⟨rfl, rfl, rfl, rfl⟩⟩
    · simp [Value.cells] at hcs
      obtain ⟨rfl, rfl, rfl⟩ := hcs
      exact ⟨zs, .inr ⟨_, rfl, hl, hm, by simpa using hz, hcell, hwz⟩⟩
  have y1 : len1 * 8 ≤ 140737488351232 := PrintWords.sized_ints hsz (j := 1) (t := 22) rfl rfl Try.underlying22 Try.underlying3 (by kernel_rfl) (by kernel_rfl) h1
  obtain ⟨a2, rfl, rfl, rfl, w2⟩ := open_int Try.underlying3 (hval 2 3 v2 rfl rfl) h2
  clear hA0 hval0 hsz0 hsz
  refine (Wi.plays_calls a0 a1 len1 cap1 a2 W (rowI w1) (by omega)).mono fun e W' ⟨he, bel⟩ => ?_
  subst he
  exact ⟨_, rfl, _, _, _, [], _, [], hW', trodAll_mk1 (shut_bool Try.underlying4 _), (trodAll_cons_mk (shut_int Try.underlying3 w0) (trodAll_cons_mk (Below.trod laidOut (by kernel_rfl) (of_decide_eq_true (by kernel_rfl)) k1 bel lt1) (trodAll_cons_mk (shut_int Try.underlying3 w2) trodAll_mk0))), rfl, bel.frame _, fun h => by cases h⟩
theorem over : Rows.windPlaysRow.holds Try.pinned (OpenSpec.ofChange Rows.windPlaysSpec) :=
  OpenClaim.holds_of_wide 6 Try.f6 rfl rfl rfl rfl rfl rfl rfl ⟨rfl, rfl, rfl, rfl, rfl⟩ rfl rfl rfl rfl rfl (by kernel_rfl) Try.func6 (by kernel_rfl)
    (of_decide_eq_true (by kernel_rfl)) (by unfold Func.isWrapper; first | (rw [if_pos (by decide +kernel)]; kernel_rfl) | (rw [if_neg (by decide +kernel)]; exact ⟨rfl, rfl⟩))
    (fun os started H enc _ => lifted os started H enc)
theorem proved : Rows.WindPlaysSaid := over
end Go.Proofs.Ythoekmedkmonhaa.windPlays
namespace Go.Proofs.Ythoekmedkmonhaa
/-- The row, under a short name, for the claim. -/
theorem windPlays_holds : Rows.WindPlaysSaid := windPlays.proved
end Go.Proofs.Ythoekmedkmonhaa
