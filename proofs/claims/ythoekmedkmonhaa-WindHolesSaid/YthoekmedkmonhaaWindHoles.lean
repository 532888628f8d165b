/- WindHoles: for all arguments, with no condition. -/
import Derived.Outline
import Derived.Deep.DeepCutAuto
import Derived.IntWalk
import Derived.Test.YthoekmedkmonhaaRows
import Derived.ProofKit
import Derived.OpenShut
import Derived.ShutString
import Derived.ChangeOld
import Derived.SizedLaws
import Derived.Test.YthoekmedkmonhaaWh
import Derived.Test.YthoekmedkmonhaaWj
import Derived.Test.YthoekmedkmonhaaWci
import Derived.Test.YthoekmedkmonhaaWSized
import Derived.Test.YthoekmedkmonhaaWk
import Derived.Laws.OwnMore
import Derived.OwnWalk
namespace Go.Proofs.Ythoekmedkmonhaa.Wi
open Go Go.RowKit Go.Maps Go.Shelf Go.Proofs.Ythoekmedkmonhaa Go.Proofs.YthoekmedkmonhaaW.PrintWords Go.Proofs.YthoekmedkmonhaaW.PrintLast Go.Proofs.YthoekmedkmonhaaW.PrintMore
attribute [local go_sem] Oper.semAt_some
attribute [local go_sem] max2_int min2_int max_two min_two
set_option linter.unusedVariables false
set_option linter.unusedSimpArgs false

theorem wf_inv {n : Int} (h : (Lit.int .i64 n).wf = true) : Wf n := by
  simp [Lit.wf, IntKind.min, IntKind.max, IntKind.signed, IntKind.bits] at h
  exact h
theorem bits_lt (n : Int) (p m : Nat) (e : Int) (he : e = ((m : Nat) : Int)) (hm : m < 2 ^ p) (hp : p < 60) : ∃ N : Nat, Go.bits .and .i64 n e = (N : Int) ∧ N ≤ m := by
  subst he
  simp only [Go.bits, BitVec.ofInt_natCast, BitVec.toNat_and]
  have h : (BitVec.ofInt IntKind.i64.bits n).toNat &&& (BitVec.ofNat IntKind.i64.bits m).toNat ≤ m := Nat.le_trans Nat.and_le_right (by rw [BitVec.toNat_ofNat]; exact Nat.mod_le _ _)
  have h2 : m < 2 ^ 60 := Nat.lt_of_lt_of_le hm (Nat.pow_le_pow_right (by decide) (by omega))
  generalize (BitVec.ofInt IntKind.i64.bits n).toNat &&& (BitVec.ofNat IntKind.i64.bits m).toNat = t at h ⊢
  exact ⟨t, by rw [IntKind.wrap_i64]; omega, h⟩


def RowI (w : World) (a : Option Addr) (len : Nat) : Prop := 0 < len → ∃ x, a = some x ∧ ∀ j, j < len → ∃ z : Int, w.cell? (x.add j) = some (.int .i64 z)

/-- Block g holds a row of bools. -/
def Hs (w : World) (g : Nat) (bs : List Bool) : Prop := w.heap[g]? = some (.cells (bs.map Value.bool).toArray 4 (0, 0))
theorem Hs.at {w : World} {g : Nat} {bs : List Bool} (h : Hs w g bs) {i : Nat} (hi : i < bs.length) : w.cell? ⟨g, i, none⟩ = some (.bool (bs.getD i false)) := by
  simp [World.cell?, show w.heap[g]? = _ from h, hi]
theorem Hs.fz {w : World} {g : Nat} {bs : List Bool} (h : Hs w g bs) (i : Nat) : w.frozen? ⟨g, i, none⟩ = false := by
  simp [World.frozen?, show w.heap[g]? = _ from h]
theorem Hs.set {w : World} {g : Nat} {bs : List Bool} (h : Hs w g bs) (i : Nat) (c : Bool) : Hs (w.setCell ⟨g, i, none⟩ (.bool c)) g (bs.set i c) := by
  have := heap_set_same h i (.bool c)
  unfold Hs
  rw [this]
  congr 2
  rw [List.setIfInBounds_toArray, List.map_set]
theorem Hs.lt {w : World} {g : Nat} {bs : List Bool} (h : Hs w g bs) : g < w.heap.size := (Array.getElem?_eq_some_iff.1 h).1
theorem Hs.tn {w w' : World} {g b m : Nat} {bs : List Bool} (h : Hs w g bs) (ht : Tn b m w w') (h1 : g ≠ b) (h2 : g ≠ m) : Hs w' g bs := (ht.block g h.lt h1 h2).trans h
theorem Hs.below {w w' : World} {g : Nat} {bs : List Bool} (h : Hs w g bs) (ht : Below w.heap.size w w') : Hs w' g bs := (ht.block g h.lt).trans h
theorem Hs.made {w : World} {base g n : Nat} (h : w.ownsRow base 4 1 (.slice (some ⟨g, 0, none⟩) n n) n (madeCells #[.bool false] (n * 1)).toList) : Hs w g (List.replicate n false) := by
  rcases h.2 with ⟨h1, _⟩ | ⟨g', cap, cur, h1, _, h2, h3, h4, h5, h6⟩
  · cases h1
  · injection h1 with h1 _ h1'
    injection h1 with h1
    injection h1 with h1 _ _
    subst h1 h1'
    unfold Hs
    rw [h2]
    congr 2
    rw [toList_madeCells_one] at h6
    rw [Nat.mul_one] at h5 h6
    rw [List.take_of_length_le (by rw [Array.length_toList]; omega)] at h6
    apply Array.ext'
    rw [h6]
    simp

theorem getD_set {bs : List Bool} {i j : Nat} (hi : i < bs.length) : (bs.set i true).getD j false = if j = i then true else bs.getD j false := by
  by_cases e : j = i
  · subst e; simp [hi]
  · rw [if_neg e]
    simp only [List.getD_eq_getElem?_getD]
    rw [List.getElem?_set_ne (fun h => e h.symm)]

/-- The window holds just what the row tells. -/
structure Rl (s : Wd) (bs : List Bool) : Prop where
  fr : s.fr = 100
  f : ∀ j : Nat, (s.f (100 + (j : Int))).isSome = bs.getD j false

theorem rl_put {n : Nat} {s s' : Wd} {bs : List Bool} {k : Nat} {x : Value} {r : Bool} (hl : Rl s bs) (hv : Iv n s) (h : PutIs s (100 + (k : Int)) x r s') (h1 : 1 ≤ k) (h2 : k < bs.length) (h3 : k ≤ 40) :
    r = !(bs.getD k false) ∧ Rl s' (bs.set k true) := by
  have hw := hv.p1
  have hf := hl.fr
  have hr : r = !(bs.getD k false) := by
    rw [h.an, hl.f k, decide_eq_true (by omega), decide_eq_true (by omega)]
    rfl
  refine ⟨hr, h.fr.trans hf, fun j => ?_⟩
  rw [getD_set h2]
  cases hr' : r with
  | false =>
    rw [h.no hr', hl.f j]
    by_cases e : j = k
    · rw [if_pos e, e]
      rw [hr'] at hr
      simpa using hr.symm
    · rw [if_neg e]
  | true =>
    rw [h.f hr']
    by_cases e : j = k
    · rw [if_pos e, e, upd_same]; rfl
    · rw [if_neg e, upd_other _ _ _ (by omega), hl.f j]

theorem rl_whole {n : Nat} {s : Wd} {bs : List Bool} {wl : Nat} (hl : Rl s bs) (hv : Iv n s) (h1 : ∀ j : Nat, 1 ≤ j → j ≤ wl → bs.getD j false = true) (h2 : bs.getD (wl + 1) false = false) : s.wh = 100 + (wl : Int) := by
  refine wh_eq hv (by rw [hl.fr]; omega) (fun j a b => ?_) ?_
  · rw [hl.fr] at a
    obtain ⟨p, rfl⟩ : ∃ p : Nat, j = 100 + (p : Int) := ⟨(j - 100).toNat, by omega⟩
    rw [hl.f p]
    exact h1 p (by omega) (by omega)
  · rw [show (100 : Int) + (wl : Int) + 1 = 100 + ((wl + 1 : Nat) : Int) by push_cast; omega, hl.f]
    exact h2

theorem rl_top {n : Nat} {s : Wd} {bs : List Bool} {T : Nat} (hl : Rl s bs) (hv : Iv n s) (h1 : bs.getD T false = true) (h2 : ∀ j : Nat, T < j → bs.getD j false = false) : s.tp = 100 + (T : Int) := by
  have a := hv.in3 (100 + (T : Int)) (by rw [hl.f]; exact h1)
  have b := hv.in4 (by omega)
  have hf := hl.fr
  obtain ⟨p, hp⟩ : ∃ p : Nat, s.tp = 100 + (p : Int) := ⟨(s.tp - 100).toNat, by omega⟩
  rw [hp, hl.f] at b
  rcases Nat.lt_or_ge T p with h | h
  · rw [h2 p h] at b; cases b
  · omega

/-- What is missing, as the law finds it. -/
theorem rl_holes {n : Nat} {s : Wd} {bs : List Bool} {T M p : Nat} (hl : Rl s bs) (hv : Iv n s) (h1 : bs.getD T false = true) (h2 : ∀ j : Nat, T < j → bs.getD j false = false) (hT : 1 ≤ T) (hp : p + 1 ≤ T)
    (hle : (holesTo s p).length ≤ M) (hend : p + 1 = T ∨ (holesTo s p).length = M) : missOf s M = holesTo s p := by
  have htp := rl_top hl hv h1 h2
  have hN : allN s = T := by unfold allN; rw [htp, hl.fr]; omega
  rw [missOf_eq hv, hN]
  have hT' : holesTo s T = holesTo s (T - 1) := by
    have e := holesTo_succ s (T - 1)
    rw [show T - 1 + 1 = T by omega] at e
    rw [e, show s.fr + 1 + ((T - 1 : Nat) : Int) = 100 + (T : Int) by rw [hl.fr]; omega, hl.f, h1]
    simp
  have hpre : ∀ d : Nat, holesTo s p <+: holesTo s (p + d) := by
    intro d
    induction d with
    | zero => exact List.prefix_refl _
    | succ d ih => exact ih.trans (by rw [show p + (d + 1) = p + d + 1 by omega, holesTo_succ]; exact List.prefix_append _ _)
  rcases hend with h | h
  · rw [hT', show T - 1 = p by omega]
    exact List.take_of_length_le hle
  · have := hpre (T - p)
    rw [show p + (T - p) = T by omega] at this
    obtain ⟨ts, hts⟩ := this
    rw [← hts, ← h]
    simp

theorem holes_step {s : Wd} {bs : List Bool} (hl : Rl s bs) (p : Nat) : holesTo s (p + 1) = holesTo s p ++ (if bs.getD (p + 1) false then [] else [100 + ((p : Int) + 1)]) := by
  rw [holesTo_succ, show s.fr + 1 + (p : Int) = 100 + ((p + 1 : Nat) : Int) by rw [hl.fr]; push_cast; omega, hl.f]
  congr 1

theorem info4 : (Try.prog.info? 4).map (fun i => (i.zero, i.size, i.bytes)) = some (some (.bool false), 1, 1) := by kernel_rfl

set_option maxRecDepth 100000 in
set_option maxHeartbeats 4000000 in
theorem holes_n (a0 : Int) (a1 : Option Addr) (len cap : Nat) (a2 : Int) (N M : Nat) (w : World) (hbN : Go.bits .and .i64 a0 31 = (N : Int)) (hbM : Go.bits .and .i64 a2 15 = (M : Int)) (hN : N ≤ 31) (hM : M ≤ 15) (hR : RowI w a1 len) (hlen : len < 1000000000000000) :
    Calls Try.prog 3 #[.int .i64 a0, .slice a1 len cap, .int .i64 a2] w (SameEnd w true) := by
  have HR := Aside0.mk hR
  clear hR
  obtain ⟨i4, ji, jz0, jz1, jz2⟩ := info_parts info4
  obtain ⟨i0, hi, hz0, hz1, hz2⟩ := info_parts info3
  have hN3 : (N : Int) + 1 + 2 = ((N + 3 : Nat) : Int) := by push_cast; omega
  go_enter Try.func3, Try.ntmps3
  go_wp2_with fail
  refine (new8 100 w).mono ?_
  rintro e w1 ⟨b, m, rfl, hb0, hm0, hw1, hB1⟩
  have hw1 : Wn 61 w1 b m 0 ⟨100, 100, 100, fun _ => none⟩ := hw1
  have hi1 : Iv 0 ⟨100, 100, 100, fun _ => none⟩ := new_iv 100 (by decide) (by decide)
  have HT := Aside0.mk hB1
  have HW := Aside0.mk hw1
  have HI := Aside0.mk hi1
  clear hB1 hw1 hi1
  go_wp2_with (at_make; refine wpList_make_full _ rfl _ _ 25 rfl w1.heap.size 4 i4 (.bool false) 1 Try.underlying25 ji jz0 jz1 .i64 .i64 _ _ (N + 3) rfl rfl (by first | exact hN3 | (push_cast; omega)) (by first | exact hN3 | (push_cast; omega)) (by rw [jz2]; omega) (by simp [maxLen]; omega) (Nat.le_refl _) ?_; intro w2 hown hgr)
  have hHs := Hs.made hown
  have hb2 : Below w1.heap.size w1 w2 := (Below.refl _ _).grown hgr (Nat.le_refl _) (fun _ e => by cases e)
  obtain ⟨g, hg⟩ : ∃ g, g = w1.heap.size := ⟨_, rfl⟩
  rw [← hg] at hHs ⊢
  have hgb : g ≠ b := by have := HW.out.blt; omega
  have hgm : g ≠ m := by have := HW.out.mlt; omega
  have hgw : w.heap.size ≤ g := by have := HT.out.size; omega
  have HW := Aside0.mk (HW.out.below hb2 HW.out.blt HW.out.mlt)
  have HT := Aside0.mk (HT.out.trans (hb2.mono HT.out.size))
  have HHS := Aside0.mk hHs
  have hRl : Rl ⟨100, 100, 100, fun _ => none⟩ (List.replicate (N + 3) false) := ⟨rfl, fun j => by
    rw [List.getD_eq_getElem?_getD, List.getElem?_replicate]
    split <;> rfl⟩
  have HRL := Aside0.mk hRl
  have HL0 : Aside0 ((List.replicate (N + 3) false).length = N + 3 ∧ ∀ j : Nat, N + 2 ≤ j → (List.replicate (N + 3) false).getD j false = false) := ⟨by simp, fun j hj => by
    rw [List.getD_eq_getElem?_getD, List.getElem?_replicate]
    split <;> rfl⟩
  clear hown hgr hHs hb2 hg hRl
  go_wp2_with fail
  go_loopw [9, 10, 11, 12, 13, 14, 15] (fun v9 _ _ _ _ _ _ wr => ∃ (i : Nat) (s : Wd) (bs : List Bool), v9 = .int .i64 (i : Int) ∧ i ≤ len ∧ i ≤ 100 ∧ Aside0 (Wn 61 wr b m i s) ∧ Aside0 (Iv i s) ∧ Aside0 (Hs wr g bs) ∧ Aside0 (Rl s bs) ∧ Aside0 (bs.length = N + 3 ∧ ∀ j : Nat, N + 2 ≤ j → bs.getD j false = false) ∧ Aside0 (Below w.heap.size w wr)) (fun v9 _ _ _ _ _ _ _ => (100 - intOf v9).toNat)
  case atStart => exact ⟨0, _, _, rfl, Nat.zero_le _, Nat.zero_le _, HW, HI, HHS, HRL, HL0, HT⟩
  case round =>
    clear HT HW HI HHS HRL HL0
    obtain ⟨i, s, bs, rfl, hk, hk2, HW, HI, HHS, HRL, HL, HT⟩ := hrel
    by_cases hlt : i < len
    · by_cases hlt2 : i < 100
      · obtain ⟨x, hxa, hcell⟩ := HR.out (by omega)
        obtain ⟨z, hz⟩ := hcell i hlt
        obtain ⟨Z, hbZ, hZ⟩ := bits_lt z 8 255 255 rfl (by decide) (by decide)
        have hd := (HT.out.cell (World.block_lt_of_cell? w _ hz)).trans hz
        clear hz hcell
        subst hxa
        have hkl : (i : Int) < (len : Int) := by omega
        have hk3 : (i : Int) < 100 := by omega
        have hk0 : (0 : Int) ≤ (i : Int) := by omega
        obtain ⟨q, hq⟩ : ∃ q : Nat, q = Z % (N + 1) := ⟨_, rfl⟩
        have hrem : Int.tmod (Z : Int) ((N : Int) + 1) = (q : Int) := by rw [hq]; rfl
        have hqN : q ≤ N := by rw [hq]; have := Nat.mod_lt Z (show 0 < N + 1 by omega); omega
        have hnz : ((N : Int) + 1 == 0) = false := by simp; omega
        have HQ := Aside0.mk hq
        clear hq
        go_wp2_with fail
        obtain ⟨c, hc⟩ : ∃ c, c = bs.getD (q + 1) false := ⟨_, rfl⟩
        have hcd : wr.drew.cell? ⟨g, q + 1, none⟩ = some (.bool c) := by rw [hc]; exact HHS.out.at (by rw [HL.out.1]; omega)
        have HC := Aside0.mk hc
        clear hc
        have HWF : Aside0 (Wf (100 + ((q : Int) + 1))) := ⟨⟨by omega, by omega⟩⟩
        have hq0 : (0 : Int) ≤ (q : Int) + 1 := by omega
        have hqL : (q : Int) + 1 < (N : Int) + 3 := by omega
        have hti : ((q : Int) + 1).toNat = q + 1 := by omega
        have hqL' : q + 1 < bs.length := by rw [HL.out.1]; omega
        have hi6 : i < 1000000 := by omega
        have hq1 : 1 ≤ q + 1 := by omega
        have hq40 : q + 1 ≤ 40 := by omega
        have hwa : IntKind.i64.wrap (100 + ((q : Int) + 1)) = 100 + ((q : Int) + 1) := by rw [IntKind.wrap_i64]; omega
        go_region_held3 (fun w' => w'.cell? ⟨g, q + 1, none⟩ = some (.bool c))
          (first | go_keep | exact (show w2.cell? _ = _ from by rw [HC.out]; exact (HHS.out.tn H2.out.2.2.1 hgb hgm).at hqL'))
          ((go_at_call 9; refine (put9 b m i s (100 + ((q : Int) + 1)) (.int .i64 ((q : Int) + 1)) wr.drew HW.out.drew HI.out hi6 HWF.out).mono ?_; rintro e w2 ⟨r, s', rfl, hp, hw, hi', ht⟩; obtain ⟨hr_, hrl⟩ := rl_put (k := q + 1) HRL.out HI.out (by push_cast; exact hp) hq1 hqL' hq40; rw [← HC.out] at hr_; subst hr_; have H2 := Aside0.mk (And.intro hw (And.intro hi' (And.intro ht.drew0 hrl))); clear hp hw hi' ht hrl))
        clear hcd hwa
        obtain ⟨hw2, hi2, ht2, hrl2⟩ := H2.out
        have HS2 := HHS.out.tn ht2 hgb hgm
        have hcc := HS2.at hqL'
        have hff := HS2.fz (q + 1)
        obtain ⟨bs', hbs'⟩ : ∃ bs', bs' = bs.set (q + 1) true := ⟨_, rfl⟩
        have HS3' : Aside0 (Hs (w2.setCell ⟨g, q + 1, none⟩ (.bool true)) g bs') := ⟨by rw [hbs']; exact HS2.set (q + 1) true⟩
        have HSET : Aside0 (bs'.getD (q + 1) false = true) := ⟨by rw [hbs', getD_set hqL', if_pos rfl]⟩
        have HL' : Aside0 (bs'.length = N + 3 ∧ ∀ j : Nat, N + 2 ≤ j → bs'.getD j false = false) := ⟨by rw [hbs', List.length_set]; exact HL.out.1, fun j hj => by rw [hbs', getD_set hqL', if_neg (by omega)]; exact HL.out.2 j hj⟩
        rw [← hbs'] at hrl2
        have HRL' := Aside0.mk hrl2
        have HI' := Aside0.mk hi2
        have HW3 := Aside0.mk (hw2.set (p := ⟨g, q + 1, none⟩) hgb.symm hgm.symm (.bool true))
        have HT3 : Aside0 (Below w.heap.size w (w2.setCell ⟨g, q + 1, none⟩ (.bool true))) := ⟨(HT.out.trans (ht2.below hb0 hm0 HT.out.size)).setCell (p := ⟨g, q + 1, none⟩) hgw _⟩
        clear hw2 hi2 ht2 hrl2 HS2 hbs' H2 HC HWF
        go_wp2_with fail
        obtain ⟨w3, hw3⟩ : ∃ w3, w2.setCell ⟨g, q + 1, none⟩ (.bool true) = w3 := ⟨_, rfl⟩
        simp only [hw3] at HS3' HW3 HT3 ⊢
        clear hw3 hcc hff
        go_loopw [11] (fun v wr => ∃ wl : Nat, v = .int .i64 (wl : Int) ∧ wl ≤ N + 1 ∧ Aside0 (∀ j : Nat, 1 ≤ j → j ≤ wl → bs'.getD j false = true) ∧ Aside0 (w3 = wr)) (fun v _ => (N + 2 - (intOf v).toNat))
        case atStart => exact ⟨0, rfl, Nat.zero_le _, ⟨fun j a b => by omega⟩, ⟨by first | rfl | trivial⟩⟩
        case round =>
          obtain ⟨wl, rfl, hwl, HWA, ⟨rfl⟩⟩ := hrel
          have hwi : (wl : Int) + 1 < (N : Int) + 3 := by omega
          have hwi0 : (0 : Int) ≤ (wl : Int) + 1 := by omega
          have hwti : ((wl : Int) + 1).toNat = wl + 1 := by omega
          have hcw := HS3'.out.at (i := wl + 1) (by rw [HL'.out.1]; omega)
          cases hb : bs'.getD (wl + 1) false with
          | true =>
            rw [hb] at hcw
            have hwN : wl ≤ N := by
              rcases Nat.lt_or_ge N wl with h | h
              · rw [HL'.out.2 (wl + 1) (by omega)] at hb; cases hb
              · exact h
            have HBB := Aside0.mk hb
            clear hb
            go_wp2_with fail
            go_roundw
            case rel => exact ⟨wl + 1, by push_cast; rfl, by omega, ⟨fun j a b => by
              by_cases e : j = wl + 1
              · rw [e]; exact HBB.out
              · exact HWA.out j a (by omega)⟩, ⟨by first | rfl | trivial⟩⟩
            case measure => simp [intOf]; omega
          | false =>
            rw [hb] at hcw
            have HWL := Aside0.mk (And.intro HWA.out hb)
            clear hb
            go_wp2_with fail
            clear hcw hwi hwi0 hwti
            go_loopw [12, 13, 68] (fun v12 _ v68 wr => ∃ p T : Nat, v68 = .int .i64 (p : Int) ∧ v12 = .int .i64 (T : Int) ∧ p ≤ N + 3 ∧ Aside0 (T ≤ p ∧ (T = 0 ∨ bs'.getD T false = true) ∧ ∀ j : Nat, T < j → j < p → bs'.getD j false = false) ∧ Aside0 (w3 = wr)) (fun _ _ v68 _ => (N + 3 - (intOf v68).toNat))
            case atStart => exact ⟨0, 0, rfl, rfl, Nat.zero_le _, ⟨Nat.le_refl _, .inl rfl, fun j a b => by omega⟩, ⟨by first | rfl | trivial⟩⟩
            case round =>
              obtain ⟨p, T, rfl, rfl, hpN, HPT, ⟨rfl⟩⟩ := hrel
              by_cases hpl : p < N + 3
              · have hpi : (p : Int) < (N : Int) + 3 := by omega
                have hp0 : (0 : Int) ≤ (p : Int) := by omega
                have hcp := HS3'.out.at (i := p) (by rw [HL'.out.1]; omega)
                cases hb : bs'.getD p false with
                | true =>
                  rw [hb] at hcp
                  have HBB := Aside0.mk hb
                  clear hb
                  go_wp2_with fail
                  go_roundw
                  case rel => exact ⟨p + 1, p, by push_cast; rfl, rfl, by omega, ⟨by omega, .inr HBB.out, fun j a b => by omega⟩, ⟨by first | rfl | trivial⟩⟩
                  case measure => simp [intOf]; omega
                | false =>
                  rw [hb] at hcp
                  have HBB := Aside0.mk hb
                  clear hb
                  go_wp2_with fail
                  go_roundw
                  case rel => exact ⟨p + 1, T, by push_cast; rfl, rfl, by omega, ⟨by have := HPT.out.1; omega, HPT.out.2.1, fun j a b => by
                    by_cases e : j = p
                    · rw [e]; exact HBB.out
                    · exact HPT.out.2.2 j a (by omega)⟩, ⟨by first | rfl | trivial⟩⟩
                  case measure => simp [intOf]; omega
              · have hpe : ¬ ((p : Int) < (N : Int) + 3) := by omega
                have hpe2 : p = N + 3 := by omega
                have hT1 : 1 ≤ T := by
                  rcases Nat.eq_zero_or_pos T with h | h
                  · have := HPT.out.2.2 (q + 1) (by omega) (by omega)
                    rw [HSET.out] at this; cases this
                  · exact h
                have hbT : bs'.getD T false = true := by
                  rcases HPT.out.2.1 with h | h
                  · omega
                  · exact h
                have hTN : T ≤ N + 1 := by
                  rcases Nat.lt_or_ge (N + 1) T with h | h
                  · rw [HL'.out.2 T (by omega)] at hbT; cases hbT
                  · exact h
                have HTT : Aside0 (bs'.getD T false = true ∧ (∀ j : Nat, T < j → bs'.getD j false = false) ∧ True) := ⟨hbT, fun j hj => by
                  rcases Nat.lt_or_ge j p with h | h
                  · exact HPT.out.2.2 j hj h
                  · exact HL'.out.2 j (by omega), trivial⟩
                clear hbT hpe2
                go_wp2_with fail
                clear hpe
                go_loopw [14, 15] (fun v14 v15 wr => ∃ (p ln cp : Nat) (A : Option Addr), v15 = .int .i64 ((p : Int) + 1) ∧ v14 = .slice A ln cp ∧ p + 1 ≤ T ∧ ln ≤ M ∧ Aside0 (ln = (holesTo s' p).length) ∧ Aside0 (wr.ownsRow w3.heap.size 3 1 (.slice A ln cp) ln ((holesTo s' p).map (Value.int .i64))) ∧ Aside0 (Below w3.heap.size w3 wr)) (fun _ v15 _ => (T + 1 - (intOf v15).toNat))
                case atStart => exact ⟨0, 0, 0, none, rfl, rfl, by omega, Nat.zero_le _, ⟨rfl⟩, ⟨World.ownsRow_nil _ _ _ _⟩, ⟨Below.refl _ _⟩⟩
                case round =>
                  obtain ⟨p, ln, cp, A, rfl, rfl, hpT, hlnM, HLN, HRW, HB4⟩ := hrel
                  have hsz4 : w3.heap.size ≤ wr.heap.size := HB4.out.size
                  by_cases g1 : p + 1 < T
                  · have g1i : (p : Int) + 1 < (T : Int) := by omega
                    by_cases g2 : ln < M
                    · have hpi : (p : Int) + 1 < (N : Int) + 3 := by omega
                      have hp0 : (0 : Int) ≤ (p : Int) + 1 := by omega
                      have hpti : ((p : Int) + 1).toNat = p + 1 := by omega
                      have hcp := (HS3'.out.below HB4.out).at (i := p + 1) (by rw [HL'.out.1]; omega)
                      have hst := holes_step HRL'.out p
                      cases hb : bs'.getD (p + 1) false with
                      | true =>
                        rw [hb] at hcp hst
                        simp only [if_true, List.append_nil] at hst
                        have HST := Aside0.mk hst
                        clear hb hst
                        go_wp2_with fail
                        go_roundw
                        case rel => exact ⟨p + 1, ln, cp, A, by push_cast; rfl, rfl, by omega, hlnM, ⟨by rw [HST.out]; exact HLN.out⟩, ⟨by rw [HST.out]; exact HRW.out⟩, HB4⟩
                        case measure => simp [intOf]; omega
                      | false =>
                        rw [hb] at hcp hst
                        simp only [Bool.false_eq_true, if_false] at hst
                        have HST := Aside0.mk hst
                        have hrow := HRW.out
                        have hwa3 : IntKind.i64.wrap (100 + ((p : Int) + 1)) = 100 + ((p : Int) + 1) := by rw [IntKind.wrap_i64]; omega
                        have hmxl : ln + 1 ≤ maxLen := by simp [maxLen]; omega
                        have hby : (ln + 1) * 8 ≤ 140737488355328 := by omega
                        clear hb hst
                        go_wp2_with (at_builtin; refine wpList_append_own _ rfl _ _ 22 rfl w3.heap.size 3 i0 (.int .i64 0) 1 8 Try.underlying22 hi hz0 hz1 hz2 rfl (by decide) _ _ _ rfl (hrow.alloc _) ⟨wr.heap.size, 0, none⟩ 1 1 [.int .i64 (100 + ((p : Int) + 1))] rfl rfl (cell_one_new _ _ _) (by simp [Value.oneCell']) hmxl hby (by simp; exact Nat.le_succ_of_le hsz4) ?_; intro v' w9 hown' hgrow _; obtain ⟨g', cap', rfl⟩ := ownsRow_succ hown')
                        go_roundw
                        case rel => exact ⟨p + 1, ln + 1, cap', some ⟨g', 0, none⟩, by push_cast; rfl, rfl, by omega, by omega, ⟨by rw [HST.out, List.length_append, ← HLN.out]; rfl⟩, ⟨by rw [HST.out, List.map_append]; exact hown'⟩, ⟨HB4.out.trans (Below.grown_row ((Below.refl _ wr).alloc hsz4 _) hgrow (by simp; omega) (hrow.alloc _) (Nat.le_refl _))⟩⟩
                        case measure => simp [intOf]; omega
                    · have g2i : ¬ (ln < M) := g2
                      obtain ⟨wx, hwx⟩ : ∃ wx, wx = wr := ⟨_, rfl⟩
                      rw [← hwx] at HRW HB4 hsz4 ⊢
                      clear hwx
                      have hmo : missOf s' M = holesTo s' p := rl_holes HRL'.out HI'.out HTT.out.1 HTT.out.2.1 hT1 hpT (by rw [← HLN.out]; exact hlnM) (by rw [← HLN.out]; omega)
                      have HMO := Aside0.mk hmo
                      clear hmo
                      have HWx := Aside0.mk (HW3.out.below HB4.out HW3.out.blt HW3.out.mlt)
                      have hwh := whole10 b m (i + 1) s' wx HWx.out
                      rw [rl_whole HRL'.out HI'.out HWL.out.1 HWL.out.2] at hwh
                      have htp := top11 b m (i + 1) s' wx HWx.out
                      rw [rl_top HRL'.out HI'.out HTT.out.1 HTT.out.2.1] at htp
                      have HWH := Aside0.mk hwh
                      have HTP := Aside0.mk htp
                      clear hwh htp
                      have hwa1 : IntKind.i64.wrap (100 + (wl : Int)) = 100 + (wl : Int) := by rw [IntKind.wrap_i64]; omega
                      have hwa2 : IntKind.i64.wrap (100 + (T : Int)) = 100 + (T : Int) := by rw [IntKind.wrap_i64]; omega
                      go_wp2_with fail
                      refine HWH.out.mono ?_
                      rintro e w5 ⟨rfl, rfl⟩
                      go_wp2_with fail
                      refine HTP.out.mono ?_
                      rintro e w6 ⟨rfl, rfl⟩
                      go_wp2_with fail
                      have hmi := callsIn_wide.1 (missing13_in Fence.wide 9 trivial trivial trivial rfl (by omega) b m (i + 1) s' M w6 HWx.out HI'.out (by omega) (by omega))
                      rw [HMO.out] at hmi
                      refine hmi.mono ?_
                      clear hmi
                      rintro e w7 ⟨A7, c7, rfl, hrow7, hb7⟩
                      rw [← HLN.out] at hrow7 ⊢
                      have R7 := Aside0.mk (IR.of_row hrow7)
                      have R6 := Aside0.mk ((IR.of_row HRW.out).below hb7)
                      have B7 := Aside0.mk (HB4.out.trans (hb7.mono HB4.out.size))
                      clear hrow7 hb7
                      go_wp2_with fail
                      have hs12 := same12 A7 A c7 cp (holesTo s' p) (holesTo s' p) w7 R7.out R6.out (by rw [← HLN.out]; omega)
                      rw [← HLN.out, decide_eq_true rfl] at hs12
                      refine hs12.mono ?_
                      clear hs12
                      rintro e w8 ⟨rfl, hb8⟩
                      have B8 := Aside0.mk (B7.out.trans (hb8.mono B7.out.size))
                      clear hb8
                      go_wp2_with fail
                      go_roundw
                      case rel => exact ⟨i + 1, s', bs', by push_cast; rfl, by omega, by omega, ⟨HW3.out.below B8.out HW3.out.blt HW3.out.mlt⟩, HI', ⟨HS3'.out.below B8.out⟩, HRL', HL', ⟨HT3.out.trans (B8.out.mono HT3.out.size)⟩⟩
                      case measure => simp [intOf]; omega
                  · have g1i : ¬ ((p : Int) + 1 < (T : Int)) := by omega
                    obtain ⟨wx, hwx⟩ : ∃ wx, wx = wr := ⟨_, rfl⟩
                    rw [← hwx] at HRW HB4 hsz4 ⊢
                    clear hwx
                    have hmo : missOf s' M = holesTo s' p := rl_holes HRL'.out HI'.out HTT.out.1 HTT.out.2.1 hT1 hpT (by rw [← HLN.out]; exact hlnM) (by rw [← HLN.out]; omega)
                    have HMO := Aside0.mk hmo
                    clear hmo
                    have HWx := Aside0.mk (HW3.out.below HB4.out HW3.out.blt HW3.out.mlt)
                    have hwh := whole10 b m (i + 1) s' wx HWx.out
                    rw [rl_whole HRL'.out HI'.out HWL.out.1 HWL.out.2] at hwh
                    have htp := top11 b m (i + 1) s' wx HWx.out
                    rw [rl_top HRL'.out HI'.out HTT.out.1 HTT.out.2.1] at htp
                    have HWH := Aside0.mk hwh
                    have HTP := Aside0.mk htp
                    clear hwh htp
                    have hwa1 : IntKind.i64.wrap (100 + (wl : Int)) = 100 + (wl : Int) := by rw [IntKind.wrap_i64]; omega
                    have hwa2 : IntKind.i64.wrap (100 + (T : Int)) = 100 + (T : Int) := by rw [IntKind.wrap_i64]; omega
                    go_wp2_with fail
                    refine HWH.out.mono ?_
                    rintro e w5 ⟨rfl, rfl⟩
                    go_wp2_with fail
                    refine HTP.out.mono ?_
                    rintro e w6 ⟨rfl, rfl⟩
                    go_wp2_with fail
                    have hmi := callsIn_wide.1 (missing13_in Fence.wide 9 trivial trivial trivial rfl (by omega) b m (i + 1) s' M w6 HWx.out HI'.out (by omega) (by omega))
                    rw [HMO.out] at hmi
                    refine hmi.mono ?_
                    clear hmi
                    rintro e w7 ⟨A7, c7, rfl, hrow7, hb7⟩
                    rw [← HLN.out] at hrow7 ⊢
                    have R7 := Aside0.mk (IR.of_row hrow7)
                    have R6 := Aside0.mk ((IR.of_row HRW.out).below hb7)
                    have B7 := Aside0.mk (HB4.out.trans (hb7.mono HB4.out.size))
                    clear hrow7 hb7
                    go_wp2_with fail
                    have hs12 := same12 A7 A c7 cp (holesTo s' p) (holesTo s' p) w7 R7.out R6.out (by rw [← HLN.out]; omega)
                    rw [← HLN.out, decide_eq_true rfl] at hs12
                    refine hs12.mono ?_
                    clear hs12
                    rintro e w8 ⟨rfl, hb8⟩
                    have B8 := Aside0.mk (B7.out.trans (hb8.mono B7.out.size))
                    clear hb8
                    go_wp2_with fail
                    go_roundw
                    case rel => exact ⟨i + 1, s', bs', by push_cast; rfl, by omega, by omega, ⟨HW3.out.below B8.out HW3.out.blt HW3.out.mlt⟩, HI', ⟨HS3'.out.below B8.out⟩, HRL', HL', ⟨HT3.out.trans (B8.out.mono HT3.out.size)⟩⟩
                    case measure => simp [intOf]; omega
      · have hk3 : ¬ ((i : Int) < 100) := by omega
        have hkl : (i : Int) < (len : Int) := by omega
        go_wp2_with fail
        refine (awake14 wr).mono ?_
        rintro e w5 ⟨rfl, hb⟩
        have HT := Aside0.mk (HT.out.trans (hb.mono HT.out.size))
        clear hb
        go_wp2_with fail
        go_ret
        exact ⟨rfl, HT.out⟩
    · have hkl : ¬ ((i : Int) < (len : Int)) := by omega
      go_wp2_with fail
      refine (awake14 wr).mono ?_
      rintro e w5 ⟨rfl, hb⟩
      have HT := Aside0.mk (HT.out.trans (hb.mono HT.out.size))
      clear hb
      go_wp2_with fail
      go_ret
      exact ⟨rfl, HT.out⟩

theorem holes_calls (a0 : Int) (a1 : Option Addr) (len cap : Nat) (a2 : Int) (w : World) (hR : RowI w a1 len) (hlen : len < 1000000000000000) : Calls Try.prog 3 #[.int .i64 a0, .slice a1 len cap, .int .i64 a2] w (SameEnd w true) := by
  obtain ⟨N, hbN, hN⟩ := bits_lt a0 5 31 31 rfl (by decide) (by decide)
  obtain ⟨M, hbM, hM⟩ := bits_lt a2 4 15 15 rfl (by decide) (by decide)
  exact holes_n a0 a1 len cap a2 N M w hbN hbM hN hM hR hlen
end Go.Proofs.Ythoekmedkmonhaa.Wi
namespace Go.Proofs.Ythoekmedkmonhaa.windHoles
open Go.ChangeShapes Go.WideShapes Go.ChangeAt Go.RowKit Go.Proofs.YthoekmedkmonhaaW
open Go.ChangeMaps (open_string shut_string)
theorem own : ownKnob Try.prog.godebug = none := by kernel_rfl
theorem laidOut : laidOutB Try.prog = true := by kernel_rfl
def IsRow (k : IntKind) (w : World) (a : Option Addr) (len cap : Nat) (zs : List Int) : Prop :=
  (a = none ∧ len = 0 ∧ cap = 0 ∧ zs = []) ∨
  ∃ x, a = some x ∧ len ≤ cap ∧ cap ≤ maxLen ∧ zs.length = cap ∧ (∀ i, i < zs.length → w.cell? (x.add i) = some (.int k (zs.getD i 0))) ∧ ∀ n ∈ zs, (Lit.int k n).wf = true
theorem rowI {w : World} {a : Option Addr} {len cap : Nat} {zs : List Int} (h : IsRow .i64 w a len cap zs) : Wi.RowI w a len := by
  intro h0
  rcases h with ⟨_, rfl, _⟩ | ⟨x, rfl, h1, h2, h3, h4, _⟩
  · exact absurd h0 (Nat.lt_irrefl 0)
  · exact ⟨x, rfl, fun j hj => ⟨_, h4 j (by omega)⟩⟩
set_option maxRecDepth 100000 in
theorem lifted (os : Os) (started : os.Started) (H : Type) (enc : TypeId × Value → H) :
    ReturnsInHanded {} Try.checked os 3 .any (Rows.windHolesSpec.pre6 enc Try.prog Try.f3 Rows.windHolesRow.domain false) (Rows.windHolesSpec.post enc Try.prog Try.f3 false true false false) := by
  refine returnsInHanded_of_change_sized (C := Try.checked) own started (by kernel_rfl) Try.func3
    (ChangeSpec.witness6 (enc := enc) (C := Try.checked) false ⟨#[], #[.int .i64 0, .slice none 0 0, .int .i64 0], []⟩ 8 (by kernel_rfl) (by kernel_rfl) (by kernel_rfl) (by kernel_rfl)) ?_
  intro W base args ds gs before hval0 hW hcnd hsz0 _
  have hsz : (DataW.weightsEach Try.prog (Try.f3.params.toList ++ Rows.windHolesSpec.plain.varTypes Try.prog) (ds ++ gs)).all (· ≤ reachBytes) = true := hsz0
  have hval : ∀ (j : Nat) t v, Try.f3.params[j]? = some t → args[j]? = some v → Value.okWide Try.prog W .any base t v := hval0
  have hW' := hW
  obtain ⟨p, q, hA0, hV, rfl, hfz, hnd⟩ := hW
  have hA : DataW.TrodAll enc Try.prog W 0 (fun _ => true) true Try.f3.params.toList args.toList ds p := hA0
  rw [Try.params3] at hA hval hsz
  obtain ⟨v0, vs0, d0, ds0, p0, q0, hargs, rfl, rfl, h0, r0⟩ := trodAll_cons hA
  obtain ⟨v1, vs1, d1, ds1, p1, q1, rfl, rfl, rfl, h1, r1⟩ := trodAll_cons r0
  obtain ⟨v2, vs2, d2, ds2, p2, q2, rfl, rfl, rfl, h2, r2⟩ := trodAll_cons r1
  obtain ⟨rfl, rfl, rfl⟩ := trodAll_nil r2
  obtain rfl : args = #[v0, v1, v2] := by cases args; simp_all
  obtain ⟨rfl, rfl⟩ := trodVars_none hV
  obtain ⟨a0, rfl, rfl, rfl, w0⟩ := open_int Try.underlying3 (hval 0 3 v0 rfl rfl) h0
  obtain ⟨a1, len1, cap1, rfl⟩ := okWide_slice Try.underlying22 (hval 1 22 v1 rfl rfl)
  have k1 := h1
  have lt1 : ∀ x ∈ p1, x.block < W.heap.size := by obtain ⟨m, hm⟩ := k1; exact DataW.trod_lt m _ _ _ hm
  obtain ⟨z1, w1⟩ : ∃ zs, IsRow .i64 W a1 len1 cap1 zs := by
    obtain ⟨fuel, hf⟩ := h1
    rcases open_ints Try.underlying22 Try.underlying3 (by kernel_rfl) hf with ⟨hcs, _⟩ | ⟨x, l, c, zs, hcs, _, hl, hm, hz, _, hcell, hwz⟩
    · simp [Value.cells] at hcs
      obtain ⟨rfl, rfl, rfl⟩ := hcs
      exact ⟨[], .inl ⟨rfl, rfl, rfl, rfl⟩⟩
    · simp [Value.cells] at hcs
      obtain ⟨rfl, rfl, rfl⟩ := hcs
      exact ⟨zs, .inr ⟨_, rfl, hl, hm, by simpa using hz, hcell, hwz⟩⟩
  have y1 : len1 * 8 ≤ 140737488351232 := PrintWords.sized_ints hsz (j := 1) (t := 22) rfl rfl Try.underlying22 Try.underlying3 (by kernel_rfl) (by kernel_rfl) h1
  obtain ⟨a2, rfl, rfl, rfl, w2⟩ := open_int Try.underlying3 (hval 2 3 v2 rfl rfl) h2
  clear hA0 hval0 hsz0 hsz
  refine (Wi.holes_calls a0 a1 len1 cap1 a2 W (rowI w1) (by omega)).mono fun e W' ⟨he, bel⟩ => ?_
  subst he
  exact ⟨_, rfl, _, _, _, [], _, [], hW', trodAll_mk1 (shut_bool Try.underlying4 _), (trodAll_cons_mk (shut_int Try.underlying3 w0) (trodAll_cons_mk (Below.trod laidOut (by kernel_rfl) (of_decide_eq_true (by kernel_rfl)) k1 bel lt1) (trodAll_cons_mk (shut_int Try.underlying3 w2) trodAll_mk0))), rfl, bel.frame _, fun h => by cases h⟩
theorem over : Rows.windHolesRow.holds Try.pinned (OpenSpec.ofChange Rows.windHolesSpec) :=
  OpenClaim.holds_of_wide 3 Try.f3 rfl rfl rfl rfl rfl rfl rfl ⟨rfl, rfl, rfl, rfl, rfl⟩ rfl rfl rfl rfl rfl (by kernel_rfl) Try.func3 (by kernel_rfl)
    (of_decide_eq_true (by kernel_rfl)) (by unfold Func.isWrapper; first | (rw [if_pos (by decide +kernel)]; kernel_rfl) | (rw [if_neg (by decide +kernel)]; exact ⟨rfl, rfl⟩))
    (fun os started H enc _ => lifted os started H enc)
theorem proved : Rows.WindHolesSaid := over
end Go.Proofs.Ythoekmedkmonhaa.windHoles
namespace Go.Proofs.Ythoekmedkmonhaa
/-- The row, under a short name, for the claim. -/
theorem windHoles_holds : Rows.WindHolesSaid := windHoles.proved
end Go.Proofs.Ythoekmedkmonhaa
