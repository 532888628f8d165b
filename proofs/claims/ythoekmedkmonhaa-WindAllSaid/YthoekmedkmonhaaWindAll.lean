/- WindAll: for all arguments, with no condition. -/
import Derived.Outline
import Derived.Deep.DeepCutAuto
import Derived.IntWalk
import Derived.Test.YthoekmedkmonhaaRows
import Derived.ProofKit
import Derived.OpenShut
import Derived.ShutString
import Derived.ChangeOld
import Derived.SizedLaws
import Derived.Test.YthoekmedkmonhaaWh
import Derived.Test.YthoekmedkmonhaaWj
import Derived.Test.YthoekmedkmonhaaWci
import Derived.Test.YthoekmedkmonhaaWSized
import Derived.Test.YthoekmedkmonhaaWk
import Derived.Laws.OwnMore
import Derived.OwnWalk
namespace Go.Proofs.Ythoekmedkmonhaa.Wi
open Go Go.RowKit Go.Maps Go.Shelf Go.Proofs.Ythoekmedkmonhaa Go.Proofs.YthoekmedkmonhaaW.PrintWords Go.Proofs.YthoekmedkmonhaaW.PrintLast Go.Proofs.YthoekmedkmonhaaW.PrintMore
attribute [local go_sem] Oper.semAt_some
attribute [local go_sem] max2_int min2_int max_two min_two
set_option linter.unusedVariables false
set_option linter.unusedSimpArgs false

theorem wf_inv {n : Int} (h : (Lit.int .i64 n).wf = true) : Wf n := by
  simp [Lit.wf, IntKind.min, IntKind.max, IntKind.signed, IntKind.bits] at h
  exact h

theorem bits_lt (n : Int) (p m : Nat) (e : Int) (he : e = ((m : Nat) : Int)) (hm : m < 2 ^ p) (hp : p < 60) : ∃ N : Nat, Go.bits .and .i64 n e = (N : Int) ∧ N ≤ m := by
  subst he
  simp only [Go.bits, BitVec.ofInt_natCast, BitVec.toNat_and]
  have h : (BitVec.ofInt IntKind.i64.bits n).toNat &&& (BitVec.ofNat IntKind.i64.bits m).toNat ≤ m := Nat.le_trans Nat.and_le_right (by rw [BitVec.toNat_ofNat]; exact Nat.mod_le _ _)
  have h2 : m < 2 ^ 60 := Nat.lt_of_lt_of_le hm (Nat.pow_le_pow_right (by decide) (by omega))
  generalize (BitVec.ofInt IntKind.i64.bits n).toNat &&& (BitVec.ofNat IntKind.i64.bits m).toNat = t at h ⊢
  exact ⟨t, by rw [IntKind.wrap_i64]; omega, h⟩

def RowI (w : World) (a : Option Addr) (len : Nat) : Prop := 0 < len → ∃ x, a = some x ∧ ∀ j, j < len → ∃ z : Int, w.cell? (x.add j) = some (.int .i64 z)
theorem add_plain (x : Addr) (j : Nat) (h : x.spot = none) : x.add j = ⟨x.block, x.off + j, none⟩ := by unfold Addr.add; split <;> cases x <;> simp_all

theorem _root_.Go.Proofs.Ythoekmedkmonhaa.Wi.IR.tn {T : TypeId} {w w' : World} {A : Option Addr} {l : List Int} {b m n : Nat} {s : Wd} (h : IR w A l) (ht : Tn b m w w') (hW : Wn T w b m n s) (hT : T ≠ 3) : IR w' A l := by
  rcases h with rfl | ⟨g, cur, h1, h2, h3⟩
  · exact .inl rfl
  · refine .inr ⟨g, cur, h1, (ht.block g (Array.getElem?_eq_some_iff.1 h2).1 ?_ ?_).trans h2, h3⟩
    · rintro rfl
      have := hW.hb.symm.trans h2
      simp at this
      exact hT this.2
    · rintro rfl
      exact hW.hm.not_cells h2 rfl

theorem wrap64_small {h : Nat} (hh : h ≤ 32) : wrap64 (h : Int) = (h : Int) := by unfold wrap64; omega

/-- The window as the law knows it: behind nought, nothing above 32. -/
def G32 (s : Wd) : Prop := s.fr = 0 ∧ s.tp ≤ 32
theorem g32_put {s s' : Wd} {i : Int} {x : Value} {r : Bool} (hg : G32 s) (h : PutIs s i x r s') (hi : i ≤ 32) : G32 s' := by
  cases hr : r with
  | false => rw [h.no hr]; exact hg
  | true =>
    refine ⟨h.fr.trans hg.1, ?_⟩
    rw [h.tp hr]
    have := hg.2
    omega
theorem g32_forty {n : Nat} {s s' : Wd} {x : Value} {r : Bool} (hg : G32 s) (hv : Iv n s) (h : PutIs s 40 x r s') : s'.fr = 0 ∧ s'.tp = 40 ∧ ky (allOf s') = ky (allOf s) ++ [40] := by
  have h1 := hv.p1
  have h2 := hv.p2
  have hf40 : (s.f 40).isSome = false := by
    cases h : (s.f 40).isSome with
    | false => rfl
    | true => have := (hv.in3 40 h).2; have := hg.2; omega
  have hr : r = true := by
    rw [h.an, hf40, decide_eq_true (by rw [hg.1]; omega), decide_eq_true (by have := hg.1; omega)]; rfl
  have hfr : s'.fr = 0 := h.fr.trans hg.1
  have htp : s'.tp = 40 := by rw [h.tp hr]; have := hg.2; omega
  refine ⟨hfr, htp, ?_⟩
  have hN : allN s' = 39 + 1 := by unfold allN; rw [hfr, htp]; rfl
  have hM : 39 = allN s + (39 - allN s) := by unfold allN; have := hg.2; have := hg.1; omega
  rw [ky_all, ky_all, hN, keysTo_succ]
  have e1 : keysTo s' 39 = keysTo s 39 := keysTo_congr h.fr 39 (fun j hj => by
    rw [h.f hr, upd_other _ _ _ (by have := hg.1; push_cast at hj; omega)])
  rw [e1]
  have e2 : keysTo s 39 = keysTo s (allN s) := by
    have := keysTo_beyond hv (39 - allN s)
    rwa [← hM] at this
  rw [e2, hfr, h.f hr]
  show keysTo s (allN s) ++ (if (upd s.f 40 (some x) 40).isSome then [(40 : Int)] else []) = _
  rw [upd_same]
  rfl

set_option maxRecDepth 100000 in
set_option maxHeartbeats 4000000 in
theorem all_calls (a : Option Addr) (len cap : Nat) (w : World) (hR : RowI w a len) (hlen : len < 1000000000000000) : Calls Try.prog 7 #[.slice a len cap] w (SameEnd w true) := by
  have HR := Aside0.mk hR
  clear hR
  refine (callsIn_wide (n := 9)).1 ?_
  refine callsIn_of_wp_marks Try.func7 rfl trivial ?_ rfl
  refine wpIn_wide.2 ?_
  simp only [Try.ntmps7, List.size_toArray, List.length_cons, List.length_nil, Nat.reduceAdd, Nat.reduceSub, Array.replicate_succ, Array.replicate_zero, List.push_toArray, List.append_toArray, List.nil_append, List.cons_append]
  go_wp2_with fail
  refine (new8 0 w).mono ?_
  rintro e w1 ⟨b, m, rfl, hb0, hm0, hw1, hB1⟩
  have hw1 : Wn 61 w1 b m 0 ⟨0, 0, 0, fun _ => none⟩ := hw1
  have hi1 : Iv 0 ⟨0, 0, 0, fun _ => none⟩ := new_iv 0 (by decide) (by decide)
  have HT := Aside0.mk hB1
  have HW := Aside0.mk hw1
  have HI := Aside0.mk hi1
  clear hB1 hw1 hi1
  go_upto_block 0 with fail
  go_cut [4] from 15 to 33 (fun s4 wx => ∃ (k : Nat) (s : Wd) (wr : World), wr = wx ∧ k ≤ 30 ∧ Aside0 (Wn 61 wx b m k s) ∧ Aside0 (Iv k s) ∧ Aside0 (G32 s) ∧ Aside0 (Below w.heap.size w wx))
  case rest =>
    clear HT HW HI
    obtain ⟨k, s, wr, hwr, hk2, HW, HI, HG, HT⟩ := hcut
    subst hwr
    go_wp2_with fail
    have hall := callsIn_wide.1 (all35_in Fence.wide 9 trivial rfl (some ⟨b, 0, none⟩) ((wr.alloc (.cells #[.slice none 0 0] 22)).alloc (.cells #[.slice none 0 0] 22)))
    refine hall.mono ?_
    rintro e w' ⟨rfl, rfl⟩
    clear hall
    go_wp2_with fail
    obtain ⟨v0, hv0⟩ : ∃ v0, (((wr.alloc (.cells #[.slice none 0 0] 22)).alloc (.cells #[.slice none 0 0] 22)).alloc (.cells #[.pointer (some ⟨b, 0, none⟩)] 23)) = v0 := ⟨_, rfl⟩
    obtain ⟨H, hH⟩ : ∃ H, H = wr.heap.size := ⟨_, rfl⟩
    have hs0 : v0.heap.size = H + 1 + 1 + 1 := by rw [← hv0, hH]; simp
    have bA : Boxed v0 H 22 (.slice none 0 0) := by rw [← hv0, hH]; exact ((Boxed.new wr 22 _).alloc _).alloc _
    have bB : Boxed v0 (H + 1) 22 (.slice none 0 0) := by
      rw [← hv0, hH]
      have := Boxed.new (wr.alloc (.cells #[.slice none 0 0] 22)) 22 (.slice none 0 0)
      rw [World.size_alloc] at this
      exact this.alloc _
    have bR : Boxed v0 (H + 1 + 1) 23 (.pointer (some ⟨b, 0, none⟩)) := by
      rw [← hv0, hH]
      have := Boxed.new ((wr.alloc (.cells #[.slice none 0 0] 22)).alloc (.cells #[.slice none 0 0] 22)) 23 (.pointer (some ⟨b, 0, none⟩))
      rw [World.size_alloc, World.size_alloc] at this
      exact this
    have hbel : Below wr.heap.size wr v0 := by
      rw [← hv0]
      exact (((Below.refl _ wr).alloc (Nat.le_refl _) _).alloc (by simp) _).alloc (by simp; omega) _
    rw [hv0]
    clear hv0
    have hbl : b < H := by rw [hH]; exact HW.out.blt
    have hml : m < H := by rw [hH]; exact HW.out.mlt
    have hTs : w.heap.size ≤ H := by rw [hH]; exact HT.out.size
    rw [← hH]
    have HBEL := Aside0.mk hbel
    rw [← hH] at hbel
    have hwrH : wr.heap.size ≤ H := by omega
    have HHH := Aside0.mk hH
    clear hH
    have hN : allN s ≤ 32 := by unfold allN; have := HG.out.1; have := HG.out.2; omega
    have h1 : 1 ≤ 9 := by omega
    obtain ⟨i0, hi, hz0, hz1, hz2⟩ := info_parts info3
    refine (wpIn_wide (n := 9)).1 ?_
    refine wpIn_rangeFunc_ownG (F := Fence.wide) rfl h1 (gf := 41) (lb := #[.pointer (some ⟨H + 1 + 1, 0, none⟩)]) rfl trivial (enters_of Try.func41 (by kernel_rfl) rfl)
      (stops41 Fence.wide 8 trivial rfl (by omega) (H + 1 + 1) H b m k s HI.out (by omega) hbl hml v0 (by omega) bR (HW.out.below HBEL.out HW.out.blt HW.out.mlt)) kw_t (kw_b (by omega) (by omega)) (Below.refl _ _) (fun _ => rfl)
      (ColI H (H + 1 + 1 + 1) v0 ky) (fun _ _ _ => False) (colI_own _ _ _ _ (by omega)) (fun _ _ _ _ _ hs _ _ => hs)
      (by rw [← hs0]; exact colI_start _ _ _ _ rfl bA) ?a1 ?assign ?body ?done ?stop
    case assign =>
      intro l x W K hK
      gi_wp2
      exact hK
    case body => as_aux_lemma =>
      rintro l pre ⟨⟨j, v⟩, hx⟩ W ⟨⟨u0, hv, hrow, -⟩, h0⟩ hlt
      clear hs0
      obtain ⟨A0, cap0, rfl⟩ := slice_of_row hrow
      have hc := hv.cell
      obtain ⟨ln, hln⟩ : ∃ ln, ln = (ky pre).length := ⟨_, rfl⟩
      have hln2 : ln ≤ 32 := by rw [hln, ky_len]; omega
      rw [← hln] at hv hrow hc
      have HLN := Aside0.mk hln
      have H0 := Aside0.mk h0
      have hsz := h0.1
      clear hln h0
      gi_wp2_with (gi_at_builtin; refine wpListIn_append_own _ rfl _ _ 22 rfl (H + 1 + 1 + 1) 3 i0 (.int .i64 0) 1 8 Try.underlying22 hi hz0 hz1 hz2 rfl (by decide) _ _ _ rfl (hrow.alloc _) ⟨W.heap.size, 0, none⟩ 1 1 [.int .i64 j] rfl rfl (cell_one_new _ _ _) (by simp [Value.oneCell']) (by simp [maxLen]; omega) (by omega) (by simp; omega) ?_; intro v' w2 hown' hgrow _; obtain ⟨g', cap', rfl⟩ := ownsRow_succ hown'; obtain ⟨q1, q2, q3, q4, q5⟩ := appended3 hv hrow hsz (by omega) hown' hgrow; have hc1 := q1.cell; have hf1 := q1.frozen; have HQ := Aside0.mk (And.intro q2 (And.intro q3 (And.intro q4 q5))); clear q2 q3 q4 q5)
      exact col_end HLN.out (Nat.le_refl _) (by omega) (by omega) (by omega) HQ.out.1 HQ.out.2.1 HQ.out.2.2.1 HQ.out.2.2.2 H0.out
    case stop =>
      rintro D c' pre W _ _ h _
      exact h.elim
    case done =>
      rintro D ys W hD rfl ⟨⟨u0, hv, hrow, -⟩, h0⟩ hK
      obtain ⟨A, cap, rfl⟩ := slice_of_row hrow
      obtain ⟨la, hla⟩ : ∃ la, la = ky (allOf s) := ⟨_, rfl⟩
      obtain ⟨n, hn⟩ : ∃ n, n = la.length := ⟨_, rfl⟩
      rw [← hla] at hv hrow
      have hrowA := IR.of_row hrow
      have hsh : (A = none ∧ n = 0 ∧ cap = 0) ∨ ∃ ga, A = some ⟨ga, 0, none⟩ ∧ n ≤ cap := by
        rcases hrow.2 with ⟨q1, q2⟩ | ⟨ga, c', cur, q1, _, _, q2, _⟩
        · injection q1 with q3 q4 q5
          exact .inl ⟨q3, by rw [hn]; exact q2, q5⟩
        · injection q1 with q3 q4 q5
          exact .inr ⟨ga, q3, by rw [hn, q5]; exact q2⟩
      have HSH := Aside0.mk hsh
      have hnl : n ≤ 32 := by rw [hn, hla, ky_len]; exact Nat.le_trans (al_len s _) hN
      rw [← hn] at hv
      have HLA := Aside0.mk (And.intro hla hn)
      have HA := Aside0.mk hv
      have HRA := Aside0.mk hrowA
      have HBB := Aside0.mk (h0.2.boxed bB (by omega) (by omega))
      have hWs : H + 1 + 1 + 1 ≤ W.heap.size := h0.1
      have hDH : H + 1 + 1 + 1 ≤ D := by omega
      have HT := Aside0.mk ((HT.out.trans (HBEL.out.mono HT.out.size)).trans (h0.2.below (n₀ := w.heap.size) (by omega) (by omega)))
      have HW := Aside0.mk (h0.2.wn (HW.out.below HBEL.out HW.out.blt HW.out.mlt) (by omega) (by omega) (by omega) (by omega))
      have HK := Aside0.mk hK
      clear hsh hla hn hv hrow hrowA h0 hK bA bB bR hbel HBEL hs0 hwrH
      go_wp2_with fail
      have hall := callsIn_wide.1 (all35_in Fence.wide 9 trivial rfl (some ⟨b, 0, none⟩) W)
      refine hall.mono ?_
      rintro e w' ⟨rfl, rfl⟩
      clear hall
      go_wp2_with fail
      obtain ⟨v1, hv1⟩ : ∃ v1, (W.alloc (.cells #[.pointer (some ⟨b, 0, none⟩)] 23)) = v1 := ⟨_, rfl⟩
      obtain ⟨E, hE⟩ : ∃ E, E = W.heap.size := ⟨_, rfl⟩
      have hs1 : v1.heap.size = E + 1 := by rw [← hv1, hE]; simp
      have hbel : Below W.heap.size W v1 := by rw [← hv1]; exact (Below.refl _ W).alloc (Nat.le_refl _) _
      have bR : Boxed v1 E 23 (.pointer (some ⟨b, 0, none⟩)) := by rw [← hv1, hE]; exact Boxed.new W 23 _
      rw [hv1]
      clear hv1
      have hAlt := HA.out.lt
      have hBlt := HBB.out.lt
      have bA : Boxed v1 H 22 (.slice A n cap) := (hbel.block H hAlt).trans HA.out
      have bB : Boxed v1 (H + 1) 22 (.slice none 0 0) := (hbel.block (H + 1) hBlt).trans HBB.out
      have rA : IR v1 A la := HRA.out.below hbel
      have hW1 := HW.out.below hbel HW.out.blt HW.out.mlt
      have hK1 : v1.heap[D]? = some (.deferred (some [])) := (hbel.block D (Array.getElem?_eq_some_iff.1 HK.out).1).trans HK.out
      have hT1 := HT.out.trans (hbel.mono HT.out.size)
      have hDE : D < E := by rw [hE]; exact (Array.getElem?_eq_some_iff.1 HK.out).1
      have hHE : H + 1 + 1 + 1 ≤ E := by rw [hE]; exact hWs
      rw [← hE]
      clear hE hbel HA HBB HRA HW HK HT hWs hAlt hBlt
      have HA := Aside0.mk bA
      have HRA := Aside0.mk rA
      have HW := Aside0.mk hW1
      have HT := Aside0.mk hT1
      have HK := Aside0.mk hK1
      obtain ⟨h, hh⟩ : ∃ h : Nat, h = n / 2 := ⟨_, rfl⟩
      have hq : Int.tdiv (n : Int) 2 = (h : Int) := by rw [hh]; rfl
      have hhn : h ≤ n := by omega
      have hh2 : n = 0 ∨ h < n := by omega
      have HHH2 := Aside0.mk hh
      clear hh rA hK1 hT1
      refine (wpIn_wide (n := 9)).1 ?_
      refine rangeFunc_brk (F := Fence.wide) rfl h1 (gf := 41) (lb := #[.pointer (some ⟨E, 0, none⟩)]) rfl trivial (enters_of Try.func41 (by kernel_rfl) rfl)
        (stops41 Fence.wide 8 trivial rfl (by omega) E H b m k s HI.out (by omega) hbl hml v1 (by omega) bR hW1) kw_t (kw_b (by omega) (by omega)) (Below.refl _ _) (fun _ => rfl)
        (fun pre X => ColI (H + 1) (E + 1) v1 ky pre X ∧ pre.length ≤ h) (fun ps X => ColI (H + 1) (E + 1) v1 (fun ps => ky ps.dropLast) ps X ∧ ps.dropLast.length = h)
        (OwnFrom.and (colI_own _ _ _ _ (by omega)) (ownFrom_pure _ _)) (OwnFrom.and (colI_own _ _ _ _ (by omega)) (ownFrom_pure _ _))
        ⟨by rw [← hs1]; exact colI_start _ _ _ _ rfl bB, Nat.zero_le _⟩ ?a12 ?assign2 ?body2 ?end2
      case assign2 =>
        intro l x W K hK
        gi_wp2
        exact hK
      case body2 => as_aux_lemma =>
        rintro l pre ⟨⟨j, v⟩, hx⟩ W ⟨⟨⟨u0, hv, hrow, -⟩, h0⟩, hph⟩ hlt
        clear hs1 hW1 bB
        obtain ⟨A0, cap0, rfl⟩ := slice_of_row hrow
        have hc := hv.cell
        have hcA := (h0.2.boxed HA.out (by omega) (by omega)).cell
        obtain ⟨ln, hln⟩ : ∃ ln, ln = (ky pre).length := ⟨_, rfl⟩
        have hln2 : ln ≤ 32 := by rw [hln, ky_len]; omega
        have hln3 : ln ≤ h := by rw [hln, ky_len]; exact hph
        rw [← hln] at hv hrow hc
        have HLN := Aside0.mk hln
        have H0 := Aside0.mk h0
        have hsz := h0.1
        clear hln h0
        by_cases heq : ln = h
        · have hd : ((ln : Int) == (h : Int)) = true := by rw [heq]; simp
          have HE := Aside0.mk heq
          clear heq
          have hdl : (pre ++ [⟨(j, v), hx⟩] : List (Ent s)).dropLast = pre := List.dropLast_concat
          gi_wp2_with fail
          refine ⟨KeepsFrom.refl _ _, ⟨⟨⟨_, hv, ?_, trivial⟩, H0.out⟩, ?_⟩, rfl⟩
          · show W.ownsRow _ 3 1 _ (ky (pre ++ [⟨(j, v), hx⟩] : List (Ent s)).dropLast).length ((ky (pre ++ [⟨(j, v), hx⟩] : List (Ent s)).dropLast).map _)
            rw [hdl, ← HLN.out]
            exact hrow
          · rw [hdl, ← ky_len, ← HLN.out]
            exact HE.out
        · have hd : ((ln : Int) == (h : Int)) = false := by simp; omega
          have HE : Aside0 (ln < h) := ⟨by omega⟩
          clear heq
          gi_wp2_with (gi_at_builtin; refine wpListIn_append_own _ rfl _ _ 22 rfl (E + 1) 3 i0 (.int .i64 0) 1 8 Try.underlying22 hi hz0 hz1 hz2 rfl (by decide) _ _ _ rfl (hrow.alloc _) ⟨W.heap.size, 0, none⟩ 1 1 [.int .i64 j] rfl rfl (cell_one_new _ _ _) (by simp [Value.oneCell']) (by simp [maxLen]; omega) (by omega) (by simp; omega) ?_; intro v' w2 hown' hgrow _; obtain ⟨g', cap', rfl⟩ := ownsRow_succ hown'; obtain ⟨q1, q2, q3, q4, q5⟩ := appended3 hv hrow hsz (by omega) hown' hgrow; have hc1 := q1.cell; have hf1 := q1.frozen; have HQ := Aside0.mk (And.intro q2 (And.intro q3 (And.intro q4 q5))); clear q2 q3 q4 q5)
          obtain ⟨q2, q3, q4, q5⟩ := HQ.out
          have hce := col_end (n₀ := H) (Bn := E) (B' := v1.heap.size) (v := v) (hx := hx) HLN.out (by omega) (by omega) (by omega) (by omega) q2 q3 q4 q5 H0.out
          refine ⟨hce.1, hce.2.1, hce.2.2, ?_⟩
          rw [List.length_append]
          have h5 := HLN.out
          rw [ky_len] at h5
          have h6 := HE.out
          show pre.length + 1 ≤ h
          omega
      case end2 =>
        rintro D' ps W hD' hor hK'
        obtain ⟨u0, hv, hrow, h0⟩ : ∃ u0, Boxed W (H + 1) 22 u0 ∧ W.ownsRow (E + 1) 3 1 u0 (la.take h).length ((la.take h).map (Value.int .i64)) ∧ (E + 1 ≤ W.heap.size ∧ Bx (E + 1) (H + 1) v1 W) := by
          rcases hor with ⟨rfl, ⟨⟨u0, hv, hrow, -⟩, h0⟩, hlen'⟩ | ⟨hpre, ⟨⟨u0, hv, hrow, -⟩, h0⟩, hlen'⟩
          · have hlb : ky (allOf s) = la.take h := by
              rw [HLA.out.1]
              exact (List.take_of_length_le (by rw [ky_len]; exact hlen')).symm
            rw [hlb] at hrow
            exact ⟨u0, hv, hrow, h0⟩
          · have hlb : ky ps.dropLast = la.take h := by
              rw [HLA.out.1]
              obtain ⟨ts, hts⟩ := (List.dropLast_prefix ps).trans hpre
              rw [← hts]
              unfold ky
              rw [List.map_append, ← hlen']
              simp
            simp only [hlb] at hrow
            exact ⟨u0, hv, hrow, h0⟩
        clear hor
        obtain ⟨A2, cap2, rfl⟩ := slice_of_row hrow
        have hnh : (la.take h).length = h := by
          rw [List.length_take, ← HLA.out.2]
          omega
        rw [hnh] at hv hrow
        have HBV := Aside0.mk hv
        have HRB := Aside0.mk (IR.of_row hrow)
        have HRA := Aside0.mk (HRA.out.bx h0.2 (by omega) bB (by decide))
        have HA := Aside0.mk (h0.2.boxed HA.out (by omega) (by omega))
        have HW := Aside0.mk (h0.2.wn HW.out (by omega) (by omega) (by omega) (by omega))
        have HT := Aside0.mk (HT.out.trans (h0.2.below (n₀ := w.heap.size) (by omega) (by omega)))
        have HK := Aside0.mk ((h0.2.block D (by omega) (by omega)).trans HK.out)
        have HK2 := Aside0.mk hK'
        have hWE : E + 1 ≤ W.heap.size := h0.1
        have hDE' : E < D' := by omega
        clear hv hrow h0 hK' hs1 hW1 bA bB bR
        go_wp2_with fail
        refine (put9 b m k s 40 (.int .i64 7) W HW.out HI.out (by omega) ⟨by decide, by decide⟩).mono ?_
        rintro e w5 ⟨r, s', rfl, hp, hw, hi', ht⟩
        obtain ⟨gfr, gtp, gky⟩ := g32_forty HG.out HI.out hp
        have hbW : b ≠ H ∧ b ≠ H + 1 ∧ m ≠ H ∧ m ≠ H + 1 := by omega
        have HA := Aside0.mk (show Boxed w5 H 22 _ from (ht.block H HA.out.lt (by omega) (by omega)).trans HA.out)
        have HBV := Aside0.mk (show Boxed w5 (H + 1) 22 _ from (ht.block (H + 1) HBV.out.lt (by omega) (by omega)).trans HBV.out)
        have HRA := Aside0.mk (HRA.out.tn ht HW.out (by decide))
        have HRB := Aside0.mk (HRB.out.tn ht HW.out (by decide))
        have HK := Aside0.mk ((ht.block D (Array.getElem?_eq_some_iff.1 HK.out).1 (by omega) (by omega)).trans HK.out)
        have hDlt : D' < W.heap.size := (Array.getElem?_eq_some_iff.1 HK2.out).1
        have HK2 := Aside0.mk ((ht.block D' hDlt (by omega) (by omega)).trans HK2.out)
        have HT := Aside0.mk (HT.out.trans (ht.below hb0 hm0 HT.out.size))
        have hw5 : E + 1 ≤ w5.heap.size := Nat.le_trans hWE ht.size
        have hD5 : D' < w5.heap.size := Nat.lt_of_lt_of_le hDlt ht.size
        have HW := Aside0.mk hw
        have HI := Aside0.mk hi'
        have HLC := Aside0.mk gky
        have hN' : allN s' = 40 := by unfold allN; rw [gfr, gtp]; rfl
        clear hp hw hi' ht gky
        go_wp2_with fail
        have hall := callsIn_wide.1 (all35_in Fence.wide 9 trivial rfl (some ⟨b, 0, none⟩) (w5.alloc (.cells #[.slice none 0 0] 22)))
        refine hall.mono ?_
        rintro e w' ⟨rfl, rfl⟩
        clear hall
        go_wp2_with fail

        obtain ⟨v2, hv2⟩ : ∃ v2, ((w5.alloc (.cells #[.slice none 0 0] 22)).alloc (.cells #[.pointer (some ⟨b, 0, none⟩)] 23)) = v2 := ⟨_, rfl⟩
        obtain ⟨G, hG⟩ : ∃ G, G = w5.heap.size := ⟨_, rfl⟩
        have hs2 : v2.heap.size = G + 1 + 1 := by rw [← hv2, hG]; simp
        have hbel : Below w5.heap.size w5 v2 := by rw [← hv2]; exact ((Below.refl _ w5).alloc (Nat.le_refl _) _).alloc (by simp) _
        have bC : Boxed v2 G 22 (.slice none 0 0) := by rw [← hv2, hG]; exact (Boxed.new w5 22 _).alloc _
        have bR : Boxed v2 (G + 1) 23 (.pointer (some ⟨b, 0, none⟩)) := by
          rw [← hv2, hG]
          have := Boxed.new (w5.alloc (.cells #[.slice none 0 0] 22)) 23 (.pointer (some ⟨b, 0, none⟩))
          rwa [World.size_alloc] at this
        rw [hv2]
        clear hv2
        have bA : Boxed v2 H 22 (.slice A n cap) := (hbel.block H HA.out.lt).trans HA.out
        have bB : Boxed v2 (H + 1) 22 (.slice A2 h cap2) := (hbel.block (H + 1) HBV.out.lt).trans HBV.out
        have rA : IR v2 A la := HRA.out.below hbel
        have rB : IR v2 A2 (la.take h) := HRB.out.below hbel
        have hW2 := HW.out.below hbel HW.out.blt HW.out.mlt
        have hK1 : v2.heap[D]? = some (.deferred (some [])) := (hbel.block D (Array.getElem?_eq_some_iff.1 HK.out).1).trans HK.out
        have hK2 : v2.heap[D']? = some (.deferred (some [])) := (hbel.block D' (Array.getElem?_eq_some_iff.1 HK2.out).1).trans HK2.out
        have hT2 := HT.out.trans (hbel.mono HT.out.size)
        have hEG : E + 1 ≤ G := by rw [hG]; exact hw5
        have hDG : D' < G := by rw [hG]; exact hD5
        rw [← hG]
        clear hG hbel HA HBV HRA HRB HW HK HK2 HT hw5 hD5 hWE hDlt
        have HW := Aside0.mk hW2
        refine (wpIn_wide (n := 9)).1 ?_
        refine wpIn_rangeFunc_ownG (F := Fence.wide) rfl h1 (gf := 41) (lb := #[.pointer (some ⟨G + 1, 0, none⟩)]) rfl trivial (enters_of Try.func41 (by kernel_rfl) rfl)
          (stops41 Fence.wide 8 trivial rfl (by omega) (G + 1) H b m (k + 1) s' HI.out (by omega) hbl hml v2 (by omega) bR hW2) kw_t (kw_b (by omega) (by omega)) (Below.refl _ _) (fun _ => rfl)
          (ColI G (G + 1 + 1) v2 ky) (fun _ _ _ => False) (colI_own _ _ _ _ (by omega)) (fun _ _ _ _ _ hs _ _ => hs)
          (by rw [← hs2]; exact colI_start _ _ _ _ rfl bC) ?a13 ?assign3 ?body3 ?done3 ?stop3
        case assign3 =>
          intro l x W K hK
          gi_wp2
          exact hK
        case body3 => as_aux_lemma =>
          rintro l pre ⟨⟨j, v⟩, hx⟩ W ⟨⟨u0, hv, hrow, -⟩, h0⟩ hlt
          clear hs2 hW2 bA bB bC bR rA rB hT2 hK1 hK2
          obtain ⟨A0, cap0, rfl⟩ := slice_of_row hrow
          have hc := hv.cell
          obtain ⟨ln, hln⟩ : ∃ ln, ln = (ky pre).length := ⟨_, rfl⟩
          have hln2 : ln ≤ 40 := by rw [hln, ky_len]; omega
          rw [← hln] at hv hrow hc
          have HLN := Aside0.mk hln
          have H0 := Aside0.mk h0
          have hsz := h0.1
          clear hln h0 hN' gfr gtp
          gi_wp2_with (gi_at_builtin; refine wpListIn_append_own _ rfl _ _ 22 rfl (G + 1 + 1) 3 i0 (.int .i64 0) 1 8 Try.underlying22 hi hz0 hz1 hz2 rfl (by decide) _ _ _ rfl (hrow.alloc _) ⟨W.heap.size, 0, none⟩ 1 1 [.int .i64 j] rfl rfl (cell_one_new _ _ _) (by simp [Value.oneCell']) (by simp [maxLen]; omega) (by omega) (by simp; omega) ?_; intro v' w2 hown' hgrow _; obtain ⟨g', cap', rfl⟩ := ownsRow_succ hown'; obtain ⟨q1, q2, q3, q4, q5⟩ := appended3 hv hrow hsz (by omega) hown' hgrow; have hc1 := q1.cell; have hf1 := q1.frozen; have HQ := Aside0.mk (And.intro q2 (And.intro q3 (And.intro q4 q5))); clear q2 q3 q4 q5)
          exact col_end HLN.out (by omega) (by omega) (by omega) (by omega) HQ.out.1 HQ.out.2.1 HQ.out.2.2.1 HQ.out.2.2.2 H0.out
        case stop3 =>
          rintro D3 c' pre W _ _ h _
          exact h.elim
        case done3 =>
          rintro D3 ys W hD3 rfl ⟨⟨u0, hv, hrow, -⟩, h0⟩ hK3
          obtain ⟨A3, cap3, rfl⟩ := slice_of_row hrow
          rw [HLC.out, ← HLA.out.1] at hv hrow
          have hlc : (la ++ [40]).length = n + 1 := by rw [List.length_append, ← HLA.out.2]; rfl
          rw [hlc] at hv hrow
          have HC := Aside0.mk hv
          have HRC := Aside0.mk (IR.of_row hrow)
          have HRA := Aside0.mk (rA.bx h0.2 (by omega) bC (by decide))
          have HRB := Aside0.mk (rB.bx h0.2 (by omega) bC (by decide))
          have HA := Aside0.mk (h0.2.boxed bA (by omega) (by omega))
          have HBV := Aside0.mk (h0.2.boxed bB (by omega) (by omega))
          have HT := Aside0.mk (hT2.trans (h0.2.below (n₀ := w.heap.size) (by omega) (by omega)))
          have HK := Aside0.mk ((h0.2.block D (by omega) (by omega)).trans hK1)
          have HK2 := Aside0.mk ((h0.2.block D' (by omega) (by omega)).trans hK2)
          have HK3 := Aside0.mk hK3
          have hD3G : G + 1 + 1 ≤ D3 := by omega
          have HRISE := Aside0.mk (show la.Pairwise (· < ·) by rw [HLA.out.1]; exact ky_rise s)
          clear hv hrow h0 hK3 hs2 hW2 bA bB bC bR rA rB hT2 hK1 hK2 hlc hN' gfr gtp HLC HI HW
          have HBEL0 : Aside0 (Below W.heap.size W W) := ⟨Below.refl _ _⟩
          go_wp2_with fail
          go_loopw [11] (fun v wr => ∃ p : Nat, v = .int .i64 ((p : Int) + 1) ∧ (p + 1 ≤ n ∨ p = 0) ∧ Aside0 (Below W.heap.size W wr)) (fun v _ => (41 - intOf v).toNat)
          case atStart => exact ⟨0, rfl, .inr rfl, HBEL0⟩
          case round =>
            clear HBEL0
            obtain ⟨p, rfl, hp1, HX⟩ := hrel
            have hcA := (show Boxed wr H 22 _ from (HX.out.block H HA.out.lt).trans HA.out).cell
            by_cases hlt : p + 1 < n
            · have hlt' : (p : Int) + 1 < (n : Int) := by omega
              obtain ⟨g1, e1, d1⟩ := (HRA.out.below HX.out).at p (by rw [← HLA.out.2]; omega)
              obtain ⟨g2, e2, d2⟩ := (HRA.out.below HX.out).at (p + 1) (by rw [← HLA.out.2]; omega)
              have hrise := rise_at HRISE.out (i := p) (by rw [← HLA.out.2]; omega)
              rw [e1] at e2
              cases e2
              subst e1
              obtain ⟨y, hy⟩ : ∃ y, y = la.getD p 0 := ⟨_, rfl⟩
              obtain ⟨z, hz⟩ : ∃ z, z = la.getD (p + 1) 0 := ⟨_, rfl⟩
              rw [← hy] at d1 hrise
              rw [← hz] at d2 hrise
              clear hy hz
              have f1 : wr.drew.cell? ⟨g1, p, none⟩ = some (.int .i64 y) := d1
              have f2 : wr.drew.cell? ⟨g1, p + 1, none⟩ = some (.int .i64 z) := d2
              have f3 : wr.drew.cell? ⟨H, 0, none⟩ = some (.slice (some ⟨g1, 0, none⟩) n cap) := hcA
              have hwp : IntKind.i64.wrap (p : Int) = p := IntWalk.i64_in _ (by omega)
              have hti : ((p : Int) + 1).toNat = p + 1 := by omega
              have hpn : (p : Int) < (n : Int) := by omega
              have hp0 : (0 : Int) ≤ (p : Int) := by omega
              have hp01 : (0 : Int) ≤ (p : Int) + 1 := by omega
              have hd : decide (z ≤ y) = false := decide_eq_false (by omega)
              go_wp2_with fail
              go_region
              go_wp2_with fail
              exact ⟨⟨p + 1, by push_cast; rfl, .inl (by omega), ⟨HX.out.drew⟩⟩, by simp [intOf]; omega⟩
            · have hge : ¬ ((p : Int) + 1 < (n : Int)) := by omega
              go_wp2_with fail
              have xA := (show Boxed wr H 22 _ from (HX.out.block H HA.out.lt).trans HA.out)
              have xB := (show Boxed wr (H + 1) 22 _ from (HX.out.block (H + 1) HBV.out.lt).trans HBV.out)
              have xC := (show Boxed wr G 22 _ from (HX.out.block G HC.out.lt).trans HC.out)
              have HRAw := Aside0.mk (HRA.out.below HX.out)
              have HRBw := Aside0.mk (HRB.out.below HX.out)
              have HRCw := Aside0.mk (HRC.out.below HX.out)
              have HLn := Aside0.mk HLA.out.2.symm
              have hK1w : wr.heap[D]? = some (.deferred (some [])) := (HX.out.block D (Array.getElem?_eq_some_iff.1 HK.out).1).trans HK.out
              have hK2w : wr.heap[D']? = some (.deferred (some [])) := (HX.out.block D' (Array.getElem?_eq_some_iff.1 HK2.out).1).trans HK2.out
              have hK3w : wr.heap[D3]? = some (.deferred (some [])) := (HX.out.block D3 (Array.getElem?_eq_some_iff.1 HK3.out).1).trans HK3.out
              have HKW := Aside0.mk (And.intro hK1w (And.intro hK2w hK3w))
              have HTw := Aside0.mk (HT.out.trans (HX.out.mono HT.out.size))
              have HDD := Aside0.mk (show w.heap.size ≤ D ∧ w.heap.size ≤ D' ∧ w.heap.size ≤ D3 from ⟨by omega, by omega, by omega⟩)
              clear hK1w hK2w hK3w hcA
              have HCAP := Aside0.mk hnh
              clear hnh
              rcases HSH.out with ⟨rfl, rfl, rfl⟩ | ⟨ga, rfl, hncap⟩
              · as_aux_lemma =>
                obtain rfl : h = 0 := by omega
                have XA := Aside0.mk xA
                have XB := Aside0.mk xB
                have XC := Aside0.mk xC
                have f1 : wr.drew.cell? ⟨H, 0, none⟩ = _ := xA.cell
                have f2 : wr.drew.cell? ⟨H + 1, 0, none⟩ = _ := xB.cell
                have f3 : wr.drew.cell? ⟨G, 0, none⟩ = _ := xC.cell
                clear xA xB xC
                have c6 := same12 A2 none cap2 0 (la.take 0) (la.take 0) wr.drew HRBw.out (HRAw.out.take 0) (by rw [HCAP.out]; decide)
                rw [HCAP.out, decide_eq_true rfl] at c6
                have C6 := Aside0.mk c6
                clear c6
                have hwh : wrap64 0 = 0 := by simp [wrap64]
                refine wp_noPanic ?_
                refine start_ (n := 20) (S := fun w' => w'.cell? ⟨H, 0, none⟩ = some (.slice none 0 0) ∧ w'.cell? ⟨H + 1, 0, none⟩ = some (.slice A2 0 cap2) ∧ w'.cell? ⟨G, 0, none⟩ = some (.slice A3 1 cap3)) (ds := []) #[false, false, false, false, false, false, false, false, false, false, false, false, false, false, false, false, false, false, false, false] (by kernel_rfl) rfl rfl ⟨XA.out.cell, XB.out.cell, XC.out.cell⟩ (fun hHeld => ?_)
                refine take_ (i := 0) (N := some 82) (v := ?_) (a' := ?_) #[true, false, false, false, false, false, false, false, false, false, false, false, false, false, false, false, false, false, false, false] rfl rfl (by kernel_rfl) (fun _ _ _ h => h) (Or.inl ⟨by rfl, ?_⟩) hHeld ?_ ?_
                rotate_left
                · rintro w' ⟨s0, s1, s2⟩
                  go_simp
                  with_reducible rfl
                rotate_left
                · simp only [Act.put, List.setIfInBounds_toArray, List.set_cons_zero, List.set_cons_succ, i64_w, i32_w]
                  rfl
                refine take_ (i := 1) (N := some 83) (v := ?_) (a' := ?_) #[true, true, false, false, false, false, false, false, false, false, false, false, false, false, false, false, false, false, false, false] rfl rfl (by kernel_rfl) (fun _ _ _ h => h) (Or.inl ⟨by rfl, ?_⟩) hHeld ?_ ?_
                rotate_left
                · rintro w' ⟨s0, s1, s2⟩
                  go_simp
                  with_reducible rfl
                rotate_left
                · simp only [Act.put, List.setIfInBounds_toArray, List.set_cons_zero, List.set_cons_succ, i64_w, i32_w]
                  rfl
                refine take_ (i := 2) (N := some 84) (v := ?_) (a' := ?_) #[true, true, true, false, false, false, false, false, false, false, false, false, false, false, false, false, false, false, false, false] rfl rfl (by kernel_rfl) (fun _ _ _ h => h) (Or.inl ⟨by rfl, ?_⟩) hHeld ?_ ?_
                rotate_left
                · rintro w' ⟨s0, s1, s2⟩
                  go_simp
                  with_reducible rfl
                rotate_left
                · simp only [Act.put, List.setIfInBounds_toArray, List.set_cons_zero, List.set_cons_succ, i64_w, i32_w]
                  rfl
                refine pure_ (i := 3) (N := some 85) (v := ?_) (a' := ?_) #[true, true, true, true, false, false, false, false, false, false, false, false, false, false, false, false, false, false, false, false] rfl rfl (by kernel_rfl) (fun _ _ _ h => h) (Or.inl ⟨by rfl, ?_⟩) ?_ ?_
                rotate_left
                · intro w'
                  go_simp
                  with_reducible rfl
                rotate_left
                · simp only [Act.put, List.setIfInBounds_toArray, List.set_cons_zero, List.set_cons_succ, i64_w, i32_w]
                  rfl
                refine pure_ (i := 4) (N := some 86) (v := ?_) (a' := ?_) #[true, true, true, true, true, false, false, false, false, false, false, false, false, false, false, false, false, false, false, false] rfl rfl (by kernel_rfl) (fun _ _ _ h => h) (Or.inl ⟨by rfl, ?_⟩) ?_ ?_
                rotate_left
                · intro w'
                  go_simp
                  with_reducible rfl
                rotate_left
                · simp only [Act.put, List.setIfInBounds_toArray, List.set_cons_zero, List.set_cons_succ, i64_w, i32_w]
                  rfl
                refine pure_ (i := 5) (N := some 87) (v := ?_) (a' := ?_) #[true, true, true, true, true, true, false, false, false, false, false, false, false, false, false, false, false, false, false, false] rfl rfl (by kernel_rfl) (fun _ _ _ h => h) (Or.inl ⟨by rfl, ?_⟩) ?_ ?_
                rotate_left
                · intro w'
                  go_simp
                  with_reducible rfl
                rotate_left
                · simp only [Act.put, List.setIfInBounds_toArray, List.set_cons_zero, List.set_cons_succ, i64_w, i32_w]
                  rfl
                refine one_ (i := 6) (N := some 88) #[true, true, true, true, true, true, true, false, false, false, false, false, false, false, false, false, false, false, false, false] rfl rfl (by kernel_rfl) (by decide) (fun K_ hK => ?_)
                refine goes_ Try.func12 (by kernel_rfl) rfl #[.slice A2 0 cap2, .slice none 0 0] (by rfl) rfl rfl (by simp only [List.map_toArray, List.map_cons, List.map_nil]; rfl) ?_
                with_reducible refine (C6.out).mono ?_
                rintro e u6 ⟨rfl, hb_⟩
                have B6 : Aside0 (Below wr.heap.size wr u6) := ⟨⟨hb_.os, hb_.tape, hb_.output, hb_.size, hb_.block⟩⟩
                clear hb_
                refine ⟨_, rfl, ?_⟩
                refine hK.out _ _ ⟨(show Boxed _ H 22 _ from (B6.out.block H XA.out.lt).trans XA.out).cell, (show Boxed _ (H + 1) 22 _ from (B6.out.block (H + 1) XB.out.lt).trans XB.out).cell, (show Boxed _ G 22 _ from (B6.out.block G XC.out.lt).trans XC.out).cell⟩ (fun hHeld => ?_)
                clear hK K_
                refine norm_ (a' := ?_) ?_ ?_
                rotate_left
                · show Act.put _ (some 88) _ = _
                  simp only [Act.put, List.setIfInBounds_toArray, List.set_cons_zero, List.set_cons_succ, i64_w, i32_w]
                  rfl
                refine pure_ (i := 7) (N := some 89) (v := ?_) (a' := ?_) #[true, true, true, true, true, true, true, true, false, false, false, false, false, false, false, false, false, false, false, false] rfl rfl (by kernel_rfl) (fun _ _ _ h => h) (Or.inl ⟨by rfl, ?_⟩) ?_ ?_
                rotate_left
                · intro w'
                  go_simp
                  with_reducible rfl
                rotate_left
                · simp only [Act.put, List.setIfInBounds_toArray, List.set_cons_zero, List.set_cons_succ, i64_w, i32_w]
                  rfl
                refine take_ (i := 8) (N := some 90) (v := ?_) (a' := ?_) #[true, true, true, true, true, true, true, true, true, false, false, false, false, false, false, false, false, false, false, false] rfl rfl (by kernel_rfl) (fun _ _ _ h => h) (Or.inl ⟨by rfl, ?_⟩) hHeld ?_ ?_
                rotate_left
                · rintro w' ⟨s0, s1, s2⟩
                  go_simp
                  with_reducible rfl
                rotate_left
                · simp only [Act.put, List.setIfInBounds_toArray, List.set_cons_zero, List.set_cons_succ, i64_w, i32_w]
                  rfl
                refine take_ (i := 10) (N := some 92) (v := ?_) (a' := ?_) #[true, true, true, true, true, true, true, true, true, false, true, false, false, false, false, false, false, false, false, false] rfl rfl (by kernel_rfl) (fun _ _ _ h => h) (Or.inl ⟨by rfl, ?_⟩) hHeld ?_ ?_
                rotate_left
                · rintro w' ⟨s0, s1, s2⟩
                  go_simp
                  with_reducible rfl
                rotate_left
                · simp only [Act.put, List.setIfInBounds_toArray, List.set_cons_zero, List.set_cons_succ, i64_w, i32_w]
                  rfl
                refine join_ (σ := Value × Value × Value) 7 #[true, true, true, true, true, true, true, true, true, true, true, true, true, false, false, false, false, false, false, false] (fun s_ => [(91, s_.1), (93, s_.2.1), (94, s_.2.2)]) (fun s_ w' => (w'.cell? ⟨H, 0, none⟩ = some (.slice none 0 0) ∧ w'.cell? ⟨H + 1, 0, none⟩ = some (.slice A2 0 cap2) ∧ w'.cell? ⟨G, 0, none⟩ = some (.slice A3 1 cap3)) ∧ AppF wr 0 la s_ w') ?_ ?_
                rotate_left
                · intro hCont
                  refine two_ (i := 9) (j := 12) (Ni := some 91) (Nj := some 94) #[true, true, true, true, true, true, true, true, true, true, true, false, false, false, false, false, false, false, false, false] #[true, true, true, true, true, true, true, true, true, false, true, false, true, false, false, false, false, false, false, false] rfl rfl rfl rfl (by kernel_rfl) (by decide) (by decide) (fun K_ hK => ?_) (fun K_ hK => ?_)
                  · skip
                    refine value_ (w1 := ?_) (v := ?_) (by rfl) rfl ?_ ?_
                    rotate_left 2
                    · go_simp
                      constructor
                      · rfl
                      · rfl
                    obtain ⟨u9, hu9⟩ : ∃ u, u6.alloc (.cells #[] 3) = u := ⟨_, rfl⟩
                    rw [hu9]
                    have hR9 := World.ownsRow_lit (base := wr.heap.size) (size := 1) (e := 3) u6 #[] 0 B6.out.size (Nat.zero_le _) rfl
                    rw [hu9] at hR9
                    have R9 := Aside0.mk hR9
                    have B9 : Aside0 (Below wr.heap.size wr u9) := ⟨by rw [← hu9]; exact B6.out.alloc B6.out.size _⟩
                    obtain ⟨g9, hg9⟩ : ∃ g, g = u6.heap.size := ⟨_, rfl⟩
                    rw [← hg9] at R9 ⊢
                    clear hu9 hg9 hR9
                    refine hK.out _ _ ⟨(show Boxed _ H 22 _ from (B9.out.block H XA.out.lt).trans XA.out).cell, (show Boxed _ (H + 1) 22 _ from (B9.out.block (H + 1) XB.out.lt).trans XB.out).cell, (show Boxed _ G 22 _ from (B9.out.block G XC.out.lt).trans XC.out).cell⟩ (fun hHeld => ?_)
                    clear hK K_
                    refine norm_ (a' := ?_) ?_ ?_
                    rotate_left
                    · show Act.put _ (some 91) _ = _
                      simp only [Act.put, List.setIfInBounds_toArray, List.set_cons_zero, List.set_cons_succ, i64_w, i32_w]
                      rfl
                    refine two_ (i := 11) (j := 12) (Ni := some 93) (Nj := some 94) #[true, true, true, true, true, true, true, true, true, true, true, true, false, false, false, false, false, false, false, false] #[true, true, true, true, true, true, true, true, true, true, true, false, true, false, false, false, false, false, false, false] rfl rfl rfl rfl (by kernel_rfl) (by decide) (by decide) (fun K_ hK => ?_) (fun K_ hK => ?_)
                    · skip
                      refine app_ (by rfl) rfl (.tmp 91) (.tmp 92) rfl wr.heap.size (.slice (some ⟨g9, 0, none⟩) 0 0) 0 [] (by rfl) R9.out none 0 0 la (by rfl) HLn.out (HRAw.out.below B9.out) (by simp) (by omega) B9.out.size ?_
                      intro v93 u11 hown hgrow
                      obtain ⟨A11, c11, rfl⟩ := slice_of_row hown
                      have B11 : Aside0 (Below wr.heap.size wr u11) := ⟨Below.grown_row B9.out hgrow B9.out.size R9.out (Nat.le_refl _)⟩
                      have R11 := Aside0.mk hown
                      simp only [Nat.zero_add, List.nil_append] at R11 ⊢
                      clear hown hgrow
                      refine hK.out _ _ ⟨(show Boxed _ H 22 _ from (B11.out.block H XA.out.lt).trans XA.out).cell, (show Boxed _ (H + 1) 22 _ from (B11.out.block (H + 1) XB.out.lt).trans XB.out).cell, (show Boxed _ G 22 _ from (B11.out.block G XC.out.lt).trans XC.out).cell⟩ (fun hHeld => ?_)
                      clear hK K_
                      refine norm_ (a' := ?_) ?_ ?_
                      rotate_left
                      · show Act.put _ (some 93) _ = _
                        simp only [Act.put, List.setIfInBounds_toArray, List.set_cons_zero, List.set_cons_succ, i64_w, i32_w]
                        rfl
                      refine one_ (i := 12) (N := some 94) #[true, true, true, true, true, true, true, true, true, true, true, true, true, false, false, false, false, false, false, false] rfl rfl (by kernel_rfl) (by decide) (fun K_ hK => ?_)
                      refine value_ (w1 := ?_) (v := ?_) (by rfl) rfl ?_ ?_
                      rotate_left 2
                      · go_simp
                        constructor
                        · rfl
                        · rfl
                      obtain ⟨u12, hu12⟩ : ∃ u, u11.alloc (.cells #[.int .i64 40] 3) = u := ⟨_, rfl⟩
                      rw [hu12]
                      have hG := World.alloc_heap_new u11 (.cells #[.int .i64 40] 3)
                      rw [hu12] at hG
                      have B12 : Aside0 (Below wr.heap.size wr u12) := ⟨by rw [← hu12]; exact B11.out.alloc B11.out.size _⟩
                      obtain ⟨g12, hg12⟩ : ∃ g, g = u11.heap.size := ⟨_, rfl⟩
                      rw [← hg12] at hG ⊢
                      have G12 := Aside0.mk hG
                      have R12 := Aside0.mk (show u12.ownsRow _ _ _ _ _ _ from by rw [← hu12]; exact R11.out.alloc _)
                      clear hu12 hg12 hG
                      refine hK.out _ _ ⟨(show Boxed _ H 22 _ from (B12.out.block H XA.out.lt).trans XA.out).cell, (show Boxed _ (H + 1) 22 _ from (B12.out.block (H + 1) XB.out.lt).trans XB.out).cell, (show Boxed _ G 22 _ from (B12.out.block G XC.out.lt).trans XC.out).cell⟩ (fun hHeld => ?_)
                      clear hK K_
                      refine norm_ (a' := ?_) ?_ ?_
                      rotate_left
                      · show Act.put _ (some 94) _ = _
                        simp only [Act.put, List.setIfInBounds_toArray, List.set_cons_zero, List.set_cons_succ, i64_w, i32_w]
                        rfl
                      exact norm_ (by simp only [putAll, Act.put, List.setIfInBounds_toArray, List.set_cons_zero, List.set_cons_succ]) (hCont (.slice (some ⟨g9, 0, none⟩) 0 0, .slice A11 0 c11, .slice (some ⟨g12, 0, none⟩) 1 1) _ ⟨hHeld, A11, c11, g12, rfl, rfl, B12.out, R12.out, G12.out⟩)
                    · skip
                      refine value_ (w1 := ?_) (v := ?_) (by rfl) rfl ?_ ?_
                      rotate_left 2
                      · go_simp
                        constructor
                        · rfl
                        · rfl
                      obtain ⟨u12, hu12⟩ : ∃ u, u9.alloc (.cells #[.int .i64 40] 3) = u := ⟨_, rfl⟩
                      rw [hu12]
                      have hG := World.alloc_heap_new u9 (.cells #[.int .i64 40] 3)
                      rw [hu12] at hG
                      have B12 : Aside0 (Below wr.heap.size wr u12) := ⟨by rw [← hu12]; exact B9.out.alloc B9.out.size _⟩
                      obtain ⟨g12, hg12⟩ : ∃ g, g = u9.heap.size := ⟨_, rfl⟩
                      rw [← hg12] at hG ⊢
                      have G12 := Aside0.mk hG
                      have R12 := Aside0.mk (show u12.ownsRow _ _ _ _ _ _ from by rw [← hu12]; exact R9.out.alloc _)
                      have N12 : Aside0 (g9 < g12) := ⟨by rw [hg12]; exact (R9.out.lt _ rfl).2⟩
                      clear hu12 hg12 hG
                      refine hK.out _ _ ⟨(show Boxed _ H 22 _ from (B12.out.block H XA.out.lt).trans XA.out).cell, (show Boxed _ (H + 1) 22 _ from (B12.out.block (H + 1) XB.out.lt).trans XB.out).cell, (show Boxed _ G 22 _ from (B12.out.block G XC.out.lt).trans XC.out).cell⟩ (fun hHeld => ?_)
                      clear hK K_
                      refine norm_ (a' := ?_) ?_ ?_
                      rotate_left
                      · show Act.put _ (some 94) _ = _
                        simp only [Act.put, List.setIfInBounds_toArray, List.set_cons_zero, List.set_cons_succ, i64_w, i32_w]
                        rfl
                      refine one_ (i := 11) (N := some 93) #[true, true, true, true, true, true, true, true, true, true, true, true, true, false, false, false, false, false, false, false] rfl rfl (by kernel_rfl) (by decide) (fun K_ hK => ?_)
                      refine app_ (by rfl) rfl (.tmp 91) (.tmp 92) rfl wr.heap.size (.slice (some ⟨g9, 0, none⟩) 0 0) 0 [] (by rfl) R12.out none 0 0 la (by rfl) HLn.out (HRAw.out.below B12.out) (by simp) (by omega) B12.out.size ?_
                      intro v93 u11 hown hgrow
                      obtain ⟨A11, c11, rfl⟩ := slice_of_row hown
                      have B11 : Aside0 (Below wr.heap.size wr u11) := ⟨Below.grown_row B12.out hgrow B12.out.size R12.out (Nat.le_refl _)⟩
                      have R11 := Aside0.mk hown
                      simp only [Nat.zero_add, List.nil_append] at R11 ⊢
                      have G11 : Aside0 (u11.heap[g12]? = some (.cells #[.int .i64 40] 3 (0, 0))) := ⟨(hgrow.block g12 (Array.getElem?_eq_some_iff.1 G12.out).1 (by simp [Value.ownBlock]; have := N12.out; omega)).trans G12.out⟩
                      clear hown hgrow
                      refine hK.out _ _ ⟨(show Boxed _ H 22 _ from (B11.out.block H XA.out.lt).trans XA.out).cell, (show Boxed _ (H + 1) 22 _ from (B11.out.block (H + 1) XB.out.lt).trans XB.out).cell, (show Boxed _ G 22 _ from (B11.out.block G XC.out.lt).trans XC.out).cell⟩ (fun hHeld => ?_)
                      clear hK K_
                      refine norm_ (a' := ?_) ?_ ?_
                      rotate_left
                      · show Act.put _ (some 93) _ = _
                        simp only [Act.put, List.setIfInBounds_toArray, List.set_cons_zero, List.set_cons_succ, i64_w, i32_w]
                        rfl
                      exact norm_ (by simp only [putAll, Act.put, List.setIfInBounds_toArray, List.set_cons_zero, List.set_cons_succ]) (hCont (.slice (some ⟨g9, 0, none⟩) 0 0, .slice A11 0 c11, .slice (some ⟨g12, 0, none⟩) 1 1) _ ⟨hHeld, A11, c11, g12, rfl, rfl, B11.out, R11.out, G11.out⟩)
                  · skip
                    refine value_ (w1 := ?_) (v := ?_) (by rfl) rfl ?_ ?_
                    rotate_left 2
                    · go_simp
                      constructor
                      · rfl
                      · rfl
                    obtain ⟨u12, hu12⟩ : ∃ u, u6.alloc (.cells #[.int .i64 40] 3) = u := ⟨_, rfl⟩
                    rw [hu12]
                    have hG := World.alloc_heap_new u6 (.cells #[.int .i64 40] 3)
                    rw [hu12] at hG
                    have B12 : Aside0 (Below wr.heap.size wr u12) := ⟨by rw [← hu12]; exact B6.out.alloc B6.out.size _⟩
                    obtain ⟨g12, hg12⟩ : ∃ g, g = u6.heap.size := ⟨_, rfl⟩
                    rw [← hg12] at hG ⊢
                    have G12 := Aside0.mk hG
                    clear hu12 hg12 hG
                    refine hK.out _ _ ⟨(show Boxed _ H 22 _ from (B12.out.block H XA.out.lt).trans XA.out).cell, (show Boxed _ (H + 1) 22 _ from (B12.out.block (H + 1) XB.out.lt).trans XB.out).cell, (show Boxed _ G 22 _ from (B12.out.block G XC.out.lt).trans XC.out).cell⟩ (fun hHeld => ?_)
                    clear hK K_
                    refine norm_ (a' := ?_) ?_ ?_
                    rotate_left
                    · show Act.put _ (some 94) _ = _
                      simp only [Act.put, List.setIfInBounds_toArray, List.set_cons_zero, List.set_cons_succ, i64_w, i32_w]
                      rfl
                    refine one_ (i := 9) (N := some 91) #[true, true, true, true, true, true, true, true, true, true, true, false, true, false, false, false, false, false, false, false] rfl rfl (by kernel_rfl) (by decide) (fun K_ hK => ?_)
                    refine value_ (w1 := ?_) (v := ?_) (by rfl) rfl ?_ ?_
                    rotate_left 2
                    · go_simp
                      constructor
                      · rfl
                      · rfl
                    obtain ⟨u9, hu9⟩ : ∃ u, u12.alloc (.cells #[] 3) = u := ⟨_, rfl⟩
                    rw [hu9]
                    have hR9 := World.ownsRow_lit (base := wr.heap.size) (size := 1) (e := 3) u12 #[] 0 B12.out.size (Nat.zero_le _) rfl
                    rw [hu9] at hR9
                    have R9 := Aside0.mk hR9
                    have B9 : Aside0 (Below wr.heap.size wr u9) := ⟨by rw [← hu9]; exact B12.out.alloc B12.out.size _⟩
                    obtain ⟨g9, hg9⟩ : ∃ g, g = u12.heap.size := ⟨_, rfl⟩
                    rw [← hg9] at R9 ⊢
                    have G9 : Aside0 (u9.heap[g12]? = some (.cells #[.int .i64 40] 3 (0, 0))) := ⟨by rw [← hu9]; exact (Below.heap_alloc _ _ _ (Array.getElem?_eq_some_iff.1 G12.out).1).trans G12.out⟩
                    have N9 : Aside0 (g12 < g9) := ⟨by rw [hg9]; exact (Array.getElem?_eq_some_iff.1 G12.out).1⟩
                    clear hu9 hg9 hR9
                    refine hK.out _ _ ⟨(show Boxed _ H 22 _ from (B9.out.block H XA.out.lt).trans XA.out).cell, (show Boxed _ (H + 1) 22 _ from (B9.out.block (H + 1) XB.out.lt).trans XB.out).cell, (show Boxed _ G 22 _ from (B9.out.block G XC.out.lt).trans XC.out).cell⟩ (fun hHeld => ?_)
                    clear hK K_
                    refine norm_ (a' := ?_) ?_ ?_
                    rotate_left
                    · show Act.put _ (some 91) _ = _
                      simp only [Act.put, List.setIfInBounds_toArray, List.set_cons_zero, List.set_cons_succ, i64_w, i32_w]
                      rfl
                    refine one_ (i := 11) (N := some 93) #[true, true, true, true, true, true, true, true, true, true, true, true, true, false, false, false, false, false, false, false] rfl rfl (by kernel_rfl) (by decide) (fun K_ hK => ?_)
                    refine app_ (by rfl) rfl (.tmp 91) (.tmp 92) rfl wr.heap.size (.slice (some ⟨g9, 0, none⟩) 0 0) 0 [] (by rfl) R9.out none 0 0 la (by rfl) HLn.out (HRAw.out.below B9.out) (by simp) (by omega) B9.out.size ?_
                    intro v93 u11 hown hgrow
                    obtain ⟨A11, c11, rfl⟩ := slice_of_row hown
                    have B11 : Aside0 (Below wr.heap.size wr u11) := ⟨Below.grown_row B9.out hgrow B9.out.size R9.out (Nat.le_refl _)⟩
                    have R11 := Aside0.mk hown
                    simp only [Nat.zero_add, List.nil_append] at R11 ⊢
                    have G11 : Aside0 (u11.heap[g12]? = some (.cells #[.int .i64 40] 3 (0, 0))) := ⟨(hgrow.block g12 (Array.getElem?_eq_some_iff.1 G9.out).1 (by simp [Value.ownBlock]; have := N9.out; omega)).trans G9.out⟩
                    clear hown hgrow
                    refine hK.out _ _ ⟨(show Boxed _ H 22 _ from (B11.out.block H XA.out.lt).trans XA.out).cell, (show Boxed _ (H + 1) 22 _ from (B11.out.block (H + 1) XB.out.lt).trans XB.out).cell, (show Boxed _ G 22 _ from (B11.out.block G XC.out.lt).trans XC.out).cell⟩ (fun hHeld => ?_)
                    clear hK K_
                    refine norm_ (a' := ?_) ?_ ?_
                    rotate_left
                    · show Act.put _ (some 93) _ = _
                      simp only [Act.put, List.setIfInBounds_toArray, List.set_cons_zero, List.set_cons_succ, i64_w, i32_w]
                      rfl
                    exact norm_ (by simp only [putAll, Act.put, List.setIfInBounds_toArray, List.set_cons_zero, List.set_cons_succ]) (hCont (.slice (some ⟨g9, 0, none⟩) 0 0, .slice A11 0 c11, .slice (some ⟨g12, 0, none⟩) 1 1) _ ⟨hHeld, A11, c11, g12, rfl, rfl, B11.out, R11.out, G11.out⟩)
                rintro ⟨v91, v93, v94⟩ uf ⟨hHeld, A11, c11, g12, e1, e2, hb_, hr_, hg_⟩
                dsimp only at e1 e2 ⊢
                subst e1 e2
                have BF := Aside0.mk hb_
                have RF := Aside0.mk hr_
                have GF := Aside0.mk hg_
                clear hb_ hr_ hg_
                refine norm_ (a' := ?_) ?_ ?_
                rotate_left
                · simp only [putAll, Act.put, List.setIfInBounds_toArray, List.set_cons_zero, List.set_cons_succ]
                  rfl
                refine one_ (i := 13) (N := some 95) #[true, true, true, true, true, true, true, true, true, true, true, true, true, true, false, false, false, false, false, false] rfl rfl (by kernel_rfl) (by decide) (fun K_ hK => ?_)
                refine app_ (by rfl) rfl (.tmp 93) (.tmp 94) rfl wr.heap.size (.slice A11 0 c11) 0 (la.map (Value.int .i64)) (by rfl) RF.out (some ⟨g12, 0, none⟩) 1 1 [40] (by rfl) rfl (IR.one GF.out) (by simp) (by omega) BF.out.size ?_
                intro v95 u13 hown hgrow
                obtain ⟨A13, c13, rfl⟩ := slice_of_row hown
                have B13 : Aside0 (Below wr.heap.size wr u13) := ⟨Below.grown_row BF.out hgrow BF.out.size RF.out (Nat.le_refl _)⟩
                rw [← List.map_append] at hown
                have R13 := Aside0.mk (IR.of_row hown)
                clear hown hgrow
                have c14 := same12 A3 A13 cap3 c13 (la ++ [40]) (la ++ [40]) u13 (HRCw.out.below B13.out) R13.out (by rw [List.length_append, HLn.out]; show _ + 1 < _; omega)
                rw [List.length_append, HLn.out, decide_eq_true rfl] at c14
                have C14 : Aside0 (Calls Try.prog 12 #[.slice A3 1 cap3, .slice A13 1 c13] u13 (SameEnd u13 true)) := ⟨c14⟩
                clear c14
                simp only [Nat.zero_add]
                refine hK.out _ _ ⟨(show Boxed _ H 22 _ from (B13.out.block H XA.out.lt).trans XA.out).cell, (show Boxed _ (H + 1) 22 _ from (B13.out.block (H + 1) XB.out.lt).trans XB.out).cell, (show Boxed _ G 22 _ from (B13.out.block G XC.out.lt).trans XC.out).cell⟩ (fun hHeld => ?_)
                clear hK K_
                refine norm_ (a' := ?_) ?_ ?_
                rotate_left
                · show Act.put _ (some 95) _ = _
                  simp only [Act.put, List.setIfInBounds_toArray, List.set_cons_zero, List.set_cons_succ, i64_w, i32_w]
                  rfl
                refine one_ (i := 14) (N := some 96) #[true, true, true, true, true, true, true, true, true, true, true, true, true, true, true, false, false, false, false, false] rfl rfl (by kernel_rfl) (by decide) (fun K_ hK => ?_)
                refine goes_ Try.func12 (by kernel_rfl) rfl #[.slice A3 1 cap3, .slice A13 1 c13] (by rfl) rfl rfl (by simp only [List.map_toArray, List.map_cons, List.map_nil]; rfl) ?_
                with_reducible refine (C14.out).mono ?_
                rintro e u14 ⟨rfl, hb_⟩
                have B14 : Aside0 (Below wr.heap.size wr u14) := ⟨B13.out.trans (hb_.mono B13.out.size)⟩
                clear hb_
                refine ⟨_, rfl, ?_⟩
                refine hK.out _ _ ⟨(show Boxed _ H 22 _ from (B14.out.block H XA.out.lt).trans XA.out).cell, (show Boxed _ (H + 1) 22 _ from (B14.out.block (H + 1) XB.out.lt).trans XB.out).cell, (show Boxed _ G 22 _ from (B14.out.block G XC.out.lt).trans XC.out).cell⟩ (fun hHeld => ?_)
                clear hK K_
                refine norm_ (a' := ?_) ?_ ?_
                rotate_left
                · show Act.put _ (some 96) _ = _
                  simp only [Act.put, List.setIfInBounds_toArray, List.set_cons_zero, List.set_cons_succ, i64_w, i32_w]
                  rfl
                refine pure_ (i := 15) (N := some 97) (v := ?_) (a' := ?_) #[true, true, true, true, true, true, true, true, true, true, true, true, true, true, true, true, false, false, false, false] rfl rfl (by kernel_rfl) (fun _ _ _ h => h) (Or.inl ⟨by rfl, ?_⟩) ?_ ?_
                rotate_left
                · intro w'
                  go_simp
                  with_reducible rfl
                rotate_left
                · simp only [Act.put, List.setIfInBounds_toArray, List.set_cons_zero, List.set_cons_succ, i64_w, i32_w]
                  rfl
                refine pure_ (i := 16) (N := some 98) (v := ?_) (a' := ?_) #[true, true, true, true, true, true, true, true, true, true, true, true, true, true, true, true, true, false, false, false] rfl rfl (by kernel_rfl) (fun _ _ _ h => h) (Or.inl ⟨by rfl, ?_⟩) ?_ ?_
                rotate_left
                · intro w'
                  go_simp
                  with_reducible rfl
                rotate_left
                · simp only [Act.put, List.setIfInBounds_toArray, List.set_cons_zero, List.set_cons_succ, i64_w, i32_w]
                  rfl
                refine one_ (i := 17) (N := some 99) #[true, true, true, true, true, true, true, true, true, true, true, true, true, true, true, true, true, true, false, false] rfl rfl (by kernel_rfl) (by decide) (fun K_ hK => ?_)
                refine goes_ Try.func14 (by kernel_rfl) rfl #[] (by rfl) rfl rfl (by simp only [List.map_toArray, List.map_nil]) ?_
                with_reducible refine (awake14 u14).mono ?_
                rintro e u17 ⟨rfl, hb_⟩
                have B17 : Aside0 (Below wr.heap.size wr u17) := ⟨B14.out.trans (hb_.mono B14.out.size)⟩
                clear hb_
                refine ⟨_, rfl, ?_⟩
                refine hK.out _ _ ⟨(show Boxed _ H 22 _ from (B17.out.block H XA.out.lt).trans XA.out).cell, (show Boxed _ (H + 1) 22 _ from (B17.out.block (H + 1) XB.out.lt).trans XB.out).cell, (show Boxed _ G 22 _ from (B17.out.block G XC.out.lt).trans XC.out).cell⟩ (fun hHeld => ?_)
                clear hK K_
                refine norm_ (a' := ?_) ?_ ?_
                rotate_left
                · show Act.put _ (some 99) _ = _
                  simp only [Act.put, List.setIfInBounds_toArray, List.set_cons_zero, List.set_cons_succ, i64_w, i32_w]
                  rfl
                refine pure_ (i := 18) (N := some 100) (v := ?_) (a' := ?_) #[true, true, true, true, true, true, true, true, true, true, true, true, true, true, true, true, true, true, true, false] rfl rfl (by kernel_rfl) (fun _ _ _ h => h) (Or.inl ⟨by rfl, ?_⟩) ?_ ?_
                rotate_left
                · intro w'
                  go_simp
                  with_reducible rfl
                rotate_left
                · simp only [Act.put, List.setIfInBounds_toArray, List.set_cons_zero, List.set_cons_succ, i64_w, i32_w]
                  rfl
                refine pure_ (i := 19) (N := some 2) (v := ?_) (a' := ?_) #[true, true, true, true, true, true, true, true, true, true, true, true, true, true, true, true, true, true, true, true] rfl rfl (by kernel_rfl) (fun _ _ _ h => h) (Or.inl ⟨by rfl, ?_⟩) ?_ ?_
                rotate_left
                · intro w'
                  go_simp
                  with_reducible rfl
                rotate_left
                · simp only [Act.put, List.setIfInBounds_toArray, List.set_cons_zero, List.set_cons_succ, i64_w, i32_w]
                  rfl
                refine done_ (by kernel_rfl) ?_
                go_wp2_with fail
                have q3 : u17.heap[D3]? = some (.deferred (some [])) := (B17.out.block D3 (Array.getElem?_eq_some_iff.1 HKW.out.2.2).1).trans HKW.out.2.2
                have q2 : u17.heap[D']? = some (.deferred (some [])) := (B17.out.block D' (Array.getElem?_eq_some_iff.1 HKW.out.2.1).1).trans HKW.out.2.1
                have q1 : u17.heap[D]? = some (.deferred (some [])) := (B17.out.block D (Array.getElem?_eq_some_iff.1 HKW.out.1).1).trans HKW.out.1
                have q2' := (World.putObj_heap_other (w := u17) (r := D3) (o := .deferred none) (show D' ≠ D3 by omega)).trans q2
                have q1' := (World.putObj_heap_other (w := u17) (r := D3) (o := .deferred none) (show D ≠ D3 by omega)).trans q1
                have q1'' := (World.putObj_heap_other (w := u17.putObj D3 (.deferred none)) (r := D') (o := .deferred none) (show D ≠ D' by omega)).trans q1'
                refine ⟨by simp, .inl ⟨_, _, rfl, run_takeDeferred q3, ?_⟩⟩
                refine ⟨by simp, .inl ⟨_, _, rfl, run_takeDeferred q2', ?_⟩⟩
                refine ⟨by simp, .inl ⟨_, _, rfl, run_takeDeferred q1'', ?_⟩⟩
                exact ⟨_, results_tmp rfl _ _ _, rfl, (((HTw.out.trans (B17.out.mono HTw.out.size)).trans (belowK_b (w := w) (Nat.le_refl _) _ D3 _ _ HDD.out.2.2 q3 rfl rfl)).trans (belowK_b (w := w) (Nat.le_refl _) _ D' _ _ HDD.out.2.1 q2' rfl rfl)).trans (belowK_b (w := w) (Nat.le_refl _) _ D _ _ HDD.out.1 q1'' rfl rfl)⟩
              · as_aux_lemma =>
                have XA := Aside0.mk xA
                have XB := Aside0.mk xB
                have XC := Aside0.mk xC
                have f1 : wr.drew.cell? ⟨H, 0, none⟩ = _ := xA.cell
                have f2 : wr.drew.cell? ⟨H + 1, 0, none⟩ = _ := xB.cell
                have f3 : wr.drew.cell? ⟨G, 0, none⟩ = _ := xC.cell
                clear xA xB xC
                have c6 := same12 A2 (some ⟨ga, 0, none⟩) cap2 cap (la.take h) (la.take h) wr.drew HRBw.out (HRAw.out.take h) (by rw [HCAP.out]; omega)
                rw [HCAP.out, decide_eq_true rfl] at c6
                have C6 := Aside0.mk c6
                clear c6
                have hh0 : (0 : Int) ≤ (h : Int) := Int.natCast_nonneg h
                have hwh : wrap64 (h : Int) = (h : Int) := wrap64_small (Nat.le_trans hhn hnl)
                have hhc : (h : Int) ≤ (cap : Int) := Int.ofNat_le.2 (Nat.le_trans hhn hncap)
                refine wp_noPanic ?_
                refine start_ (n := 20) (S := fun w' => w'.cell? ⟨H, 0, none⟩ = some (.slice (some ⟨ga, 0, none⟩) n cap) ∧ w'.cell? ⟨H + 1, 0, none⟩ = some (.slice A2 h cap2) ∧ w'.cell? ⟨G, 0, none⟩ = some (.slice A3 (n + 1) cap3)) (ds := []) #[false, false, false, false, false, false, false, false, false, false, false, false, false, false, false, false, false, false, false, false] (by kernel_rfl) rfl rfl ⟨XA.out.cell, XB.out.cell, XC.out.cell⟩ (fun hHeld => ?_)
                refine take_ (i := 0) (N := some 82) (v := ?_) (a' := ?_) #[true, false, false, false, false, false, false, false, false, false, false, false, false, false, false, false, false, false, false, false] rfl rfl (by kernel_rfl) (fun _ _ _ h => h) (Or.inl ⟨by rfl, ?_⟩) hHeld ?_ ?_
                rotate_left
                · rintro w' ⟨s0, s1, s2⟩
                  go_simp
                  with_reducible rfl
                rotate_left
                · simp only [Act.put, List.setIfInBounds_toArray, List.set_cons_zero, List.set_cons_succ, i64_w, i32_w]
                  rfl
                refine take_ (i := 1) (N := some 83) (v := ?_) (a' := ?_) #[true, true, false, false, false, false, false, false, false, false, false, false, false, false, false, false, false, false, false, false] rfl rfl (by kernel_rfl) (fun _ _ _ h => h) (Or.inl ⟨by rfl, ?_⟩) hHeld ?_ ?_
                rotate_left
                · rintro w' ⟨s0, s1, s2⟩
                  go_simp
                  with_reducible rfl
                rotate_left
                · simp only [Act.put, List.setIfInBounds_toArray, List.set_cons_zero, List.set_cons_succ, i64_w, i32_w]
                  rfl
                refine take_ (i := 2) (N := some 84) (v := ?_) (a' := ?_) #[true, true, true, false, false, false, false, false, false, false, false, false, false, false, false, false, false, false, false, false] rfl rfl (by kernel_rfl) (fun _ _ _ h => h) (Or.inl ⟨by rfl, ?_⟩) hHeld ?_ ?_
                rotate_left
                · rintro w' ⟨s0, s1, s2⟩
                  go_simp
                  with_reducible rfl
                rotate_left
                · simp only [Act.put, List.setIfInBounds_toArray, List.set_cons_zero, List.set_cons_succ, i64_w, i32_w]
                  rfl
                refine pure_ (i := 3) (N := some 85) (v := ?_) (a' := ?_) #[true, true, true, true, false, false, false, false, false, false, false, false, false, false, false, false, false, false, false, false] rfl rfl (by kernel_rfl) (fun _ _ _ h => h) (Or.inl ⟨by rfl, ?_⟩) ?_ ?_
                rotate_left
                · intro w'
                  go_simp
                  with_reducible rfl
                rotate_left
                · simp only [Act.put, List.setIfInBounds_toArray, List.set_cons_zero, List.set_cons_succ, i64_w, i32_w]
                  rfl
                refine pure_ (i := 4) (N := some 86) (v := ?_) (a' := ?_) #[true, true, true, true, true, false, false, false, false, false, false, false, false, false, false, false, false, false, false, false] rfl rfl (by kernel_rfl) (fun _ _ _ h => h) (Or.inl ⟨by rfl, ?_⟩) ?_ ?_
                rotate_left
                · intro w'
                  go_simp
                  with_reducible rfl
                rotate_left
                · simp only [Act.put, List.setIfInBounds_toArray, List.set_cons_zero, List.set_cons_succ, i64_w, i32_w]
                  rfl
                refine pure_ (i := 5) (N := some 87) (v := ?_) (a' := ?_) #[true, true, true, true, true, true, false, false, false, false, false, false, false, false, false, false, false, false, false, false] rfl rfl (by kernel_rfl) (fun _ _ _ h => h) (Or.inl ⟨by rfl, ?_⟩) ?_ ?_
                rotate_left
                · intro w'
                  go_simp
                  with_reducible rfl
                rotate_left
                · simp only [Act.put, List.setIfInBounds_toArray, List.set_cons_zero, List.set_cons_succ, i64_w, i32_w]
                  rfl
                refine one_ (i := 6) (N := some 88) #[true, true, true, true, true, true, true, false, false, false, false, false, false, false, false, false, false, false, false, false] rfl rfl (by kernel_rfl) (by decide) (fun K_ hK => ?_)
                refine goes_ Try.func12 (by kernel_rfl) rfl #[.slice A2 h cap2, .slice (some ⟨ga, 0, none⟩) h cap] (by rfl) rfl rfl (by simp only [List.map_toArray, List.map_cons, List.map_nil]; rfl) ?_
                with_reducible refine (C6.out).mono ?_
                rintro e u6 ⟨rfl, hb_⟩
                have B6 : Aside0 (Below wr.heap.size wr u6) := ⟨⟨hb_.os, hb_.tape, hb_.output, hb_.size, hb_.block⟩⟩
                clear hb_
                refine ⟨_, rfl, ?_⟩
                refine hK.out _ _ ⟨(show Boxed _ H 22 _ from (B6.out.block H XA.out.lt).trans XA.out).cell, (show Boxed _ (H + 1) 22 _ from (B6.out.block (H + 1) XB.out.lt).trans XB.out).cell, (show Boxed _ G 22 _ from (B6.out.block G XC.out.lt).trans XC.out).cell⟩ (fun hHeld => ?_)
                clear hK K_
                refine norm_ (a' := ?_) ?_ ?_
                rotate_left
                · show Act.put _ (some 88) _ = _
                  simp only [Act.put, List.setIfInBounds_toArray, List.set_cons_zero, List.set_cons_succ, i64_w, i32_w]
                  rfl
                refine pure_ (i := 7) (N := some 89) (v := ?_) (a' := ?_) #[true, true, true, true, true, true, true, true, false, false, false, false, false, false, false, false, false, false, false, false] rfl rfl (by kernel_rfl) (fun _ _ _ h => h) (Or.inl ⟨by rfl, ?_⟩) ?_ ?_
                rotate_left
                · intro w'
                  go_simp
                  with_reducible rfl
                rotate_left
                · simp only [Act.put, List.setIfInBounds_toArray, List.set_cons_zero, List.set_cons_succ, i64_w, i32_w]
                  rfl
                refine take_ (i := 8) (N := some 90) (v := ?_) (a' := ?_) #[true, true, true, true, true, true, true, true, true, false, false, false, false, false, false, false, false, false, false, false] rfl rfl (by kernel_rfl) (fun _ _ _ h => h) (Or.inl ⟨by rfl, ?_⟩) hHeld ?_ ?_
                rotate_left
                · rintro w' ⟨s0, s1, s2⟩
                  go_simp
                  with_reducible rfl
                rotate_left
                · simp only [Act.put, List.setIfInBounds_toArray, List.set_cons_zero, List.set_cons_succ, i64_w, i32_w]
                  rfl
                refine take_ (i := 10) (N := some 92) (v := ?_) (a' := ?_) #[true, true, true, true, true, true, true, true, true, false, true, false, false, false, false, false, false, false, false, false] rfl rfl (by kernel_rfl) (fun _ _ _ h => h) (Or.inl ⟨by rfl, ?_⟩) hHeld ?_ ?_
                rotate_left
                · rintro w' ⟨s0, s1, s2⟩
                  go_simp
                  with_reducible rfl
                rotate_left
                · simp only [Act.put, List.setIfInBounds_toArray, List.set_cons_zero, List.set_cons_succ, i64_w, i32_w]
                  rfl
                refine join_ (σ := Value × Value × Value) 7 #[true, true, true, true, true, true, true, true, true, true, true, true, true, false, false, false, false, false, false, false] (fun s_ => [(91, s_.1), (93, s_.2.1), (94, s_.2.2)]) (fun s_ w' => (w'.cell? ⟨H, 0, none⟩ = some (.slice (some ⟨ga, 0, none⟩) n cap) ∧ w'.cell? ⟨H + 1, 0, none⟩ = some (.slice A2 h cap2) ∧ w'.cell? ⟨G, 0, none⟩ = some (.slice A3 (n + 1) cap3)) ∧ AppF wr n la s_ w') ?_ ?_
                rotate_left
                · intro hCont
                  refine two_ (i := 9) (j := 12) (Ni := some 91) (Nj := some 94) #[true, true, true, true, true, true, true, true, true, true, true, false, false, false, false, false, false, false, false, false] #[true, true, true, true, true, true, true, true, true, false, true, false, true, false, false, false, false, false, false, false] rfl rfl rfl rfl (by kernel_rfl) (by decide) (by decide) (fun K_ hK => ?_) (fun K_ hK => ?_)
                  · skip
                    refine value_ (w1 := ?_) (v := ?_) (by rfl) rfl ?_ ?_
                    rotate_left 2
                    · go_simp
                      constructor
                      · rfl
                      · rfl
                    obtain ⟨u9, hu9⟩ : ∃ u, u6.alloc (.cells #[] 3) = u := ⟨_, rfl⟩
                    rw [hu9]
                    have hR9 := World.ownsRow_lit (base := wr.heap.size) (size := 1) (e := 3) u6 #[] 0 B6.out.size (Nat.zero_le _) rfl
                    rw [hu9] at hR9
                    have R9 := Aside0.mk hR9
                    have B9 : Aside0 (Below wr.heap.size wr u9) := ⟨by rw [← hu9]; exact B6.out.alloc B6.out.size _⟩
                    obtain ⟨g9, hg9⟩ : ∃ g, g = u6.heap.size := ⟨_, rfl⟩
                    rw [← hg9] at R9 ⊢
                    clear hu9 hg9 hR9
                    refine hK.out _ _ ⟨(show Boxed _ H 22 _ from (B9.out.block H XA.out.lt).trans XA.out).cell, (show Boxed _ (H + 1) 22 _ from (B9.out.block (H + 1) XB.out.lt).trans XB.out).cell, (show Boxed _ G 22 _ from (B9.out.block G XC.out.lt).trans XC.out).cell⟩ (fun hHeld => ?_)
                    clear hK K_
                    refine norm_ (a' := ?_) ?_ ?_
                    rotate_left
                    · show Act.put _ (some 91) _ = _
                      simp only [Act.put, List.setIfInBounds_toArray, List.set_cons_zero, List.set_cons_succ, i64_w, i32_w]
                      rfl
                    refine two_ (i := 11) (j := 12) (Ni := some 93) (Nj := some 94) #[true, true, true, true, true, true, true, true, true, true, true, true, false, false, false, false, false, false, false, false] #[true, true, true, true, true, true, true, true, true, true, true, false, true, false, false, false, false, false, false, false] rfl rfl rfl rfl (by kernel_rfl) (by decide) (by decide) (fun K_ hK => ?_) (fun K_ hK => ?_)
                    · skip
                      refine app_ (by rfl) rfl (.tmp 91) (.tmp 92) rfl wr.heap.size (.slice (some ⟨g9, 0, none⟩) 0 0) 0 [] (by rfl) R9.out (some ⟨ga, 0, none⟩) n cap la (by rfl) HLn.out (HRAw.out.below B9.out) (by simp) (by omega) B9.out.size ?_
                      intro v93 u11 hown hgrow
                      obtain ⟨A11, c11, rfl⟩ := slice_of_row hown
                      have B11 : Aside0 (Below wr.heap.size wr u11) := ⟨Below.grown_row B9.out hgrow B9.out.size R9.out (Nat.le_refl _)⟩
                      have R11 := Aside0.mk hown
                      simp only [Nat.zero_add, List.nil_append] at R11 ⊢
                      clear hown hgrow
                      refine hK.out _ _ ⟨(show Boxed _ H 22 _ from (B11.out.block H XA.out.lt).trans XA.out).cell, (show Boxed _ (H + 1) 22 _ from (B11.out.block (H + 1) XB.out.lt).trans XB.out).cell, (show Boxed _ G 22 _ from (B11.out.block G XC.out.lt).trans XC.out).cell⟩ (fun hHeld => ?_)
                      clear hK K_
                      refine norm_ (a' := ?_) ?_ ?_
                      rotate_left
                      · show Act.put _ (some 93) _ = _
                        simp only [Act.put, List.setIfInBounds_toArray, List.set_cons_zero, List.set_cons_succ, i64_w, i32_w]
                        rfl
                      refine one_ (i := 12) (N := some 94) #[true, true, true, true, true, true, true, true, true, true, true, true, true, false, false, false, false, false, false, false] rfl rfl (by kernel_rfl) (by decide) (fun K_ hK => ?_)
                      refine value_ (w1 := ?_) (v := ?_) (by rfl) rfl ?_ ?_
                      rotate_left 2
                      · go_simp
                        constructor
                        · rfl
                        · rfl
                      obtain ⟨u12, hu12⟩ : ∃ u, u11.alloc (.cells #[.int .i64 40] 3) = u := ⟨_, rfl⟩
                      rw [hu12]
                      have hG := World.alloc_heap_new u11 (.cells #[.int .i64 40] 3)
                      rw [hu12] at hG
                      have B12 : Aside0 (Below wr.heap.size wr u12) := ⟨by rw [← hu12]; exact B11.out.alloc B11.out.size _⟩
                      obtain ⟨g12, hg12⟩ : ∃ g, g = u11.heap.size := ⟨_, rfl⟩
                      rw [← hg12] at hG ⊢
                      have G12 := Aside0.mk hG
                      have R12 := Aside0.mk (show u12.ownsRow _ _ _ _ _ _ from by rw [← hu12]; exact R11.out.alloc _)
                      clear hu12 hg12 hG
                      refine hK.out _ _ ⟨(show Boxed _ H 22 _ from (B12.out.block H XA.out.lt).trans XA.out).cell, (show Boxed _ (H + 1) 22 _ from (B12.out.block (H + 1) XB.out.lt).trans XB.out).cell, (show Boxed _ G 22 _ from (B12.out.block G XC.out.lt).trans XC.out).cell⟩ (fun hHeld => ?_)
                      clear hK K_
                      refine norm_ (a' := ?_) ?_ ?_
                      rotate_left
                      · show Act.put _ (some 94) _ = _
                        simp only [Act.put, List.setIfInBounds_toArray, List.set_cons_zero, List.set_cons_succ, i64_w, i32_w]
                        rfl
                      exact norm_ (by simp only [putAll, Act.put, List.setIfInBounds_toArray, List.set_cons_zero, List.set_cons_succ]) (hCont (.slice (some ⟨g9, 0, none⟩) 0 0, .slice A11 n c11, .slice (some ⟨g12, 0, none⟩) 1 1) _ ⟨hHeld, A11, c11, g12, rfl, rfl, B12.out, R12.out, G12.out⟩)
                    · skip
                      refine value_ (w1 := ?_) (v := ?_) (by rfl) rfl ?_ ?_
                      rotate_left 2
                      · go_simp
                        constructor
                        · rfl
                        · rfl
                      obtain ⟨u12, hu12⟩ : ∃ u, u9.alloc (.cells #[.int .i64 40] 3) = u := ⟨_, rfl⟩
                      rw [hu12]
                      have hG := World.alloc_heap_new u9 (.cells #[.int .i64 40] 3)
                      rw [hu12] at hG
                      have B12 : Aside0 (Below wr.heap.size wr u12) := ⟨by rw [← hu12]; exact B9.out.alloc B9.out.size _⟩
                      obtain ⟨g12, hg12⟩ : ∃ g, g = u9.heap.size := ⟨_, rfl⟩
                      rw [← hg12] at hG ⊢
                      have G12 := Aside0.mk hG
                      have R12 := Aside0.mk (show u12.ownsRow _ _ _ _ _ _ from by rw [← hu12]; exact R9.out.alloc _)
                      have N12 : Aside0 (g9 < g12) := ⟨by rw [hg12]; exact (R9.out.lt _ rfl).2⟩
                      clear hu12 hg12 hG
                      refine hK.out _ _ ⟨(show Boxed _ H 22 _ from (B12.out.block H XA.out.lt).trans XA.out).cell, (show Boxed _ (H + 1) 22 _ from (B12.out.block (H + 1) XB.out.lt).trans XB.out).cell, (show Boxed _ G 22 _ from (B12.out.block G XC.out.lt).trans XC.out).cell⟩ (fun hHeld => ?_)
                      clear hK K_
                      refine norm_ (a' := ?_) ?_ ?_
                      rotate_left
                      · show Act.put _ (some 94) _ = _
                        simp only [Act.put, List.setIfInBounds_toArray, List.set_cons_zero, List.set_cons_succ, i64_w, i32_w]
                        rfl
                      refine one_ (i := 11) (N := some 93) #[true, true, true, true, true, true, true, true, true, true, true, true, true, false, false, false, false, false, false, false] rfl rfl (by kernel_rfl) (by decide) (fun K_ hK => ?_)
                      refine app_ (by rfl) rfl (.tmp 91) (.tmp 92) rfl wr.heap.size (.slice (some ⟨g9, 0, none⟩) 0 0) 0 [] (by rfl) R12.out (some ⟨ga, 0, none⟩) n cap la (by rfl) HLn.out (HRAw.out.below B12.out) (by simp) (by omega) B12.out.size ?_
                      intro v93 u11 hown hgrow
                      obtain ⟨A11, c11, rfl⟩ := slice_of_row hown
                      have B11 : Aside0 (Below wr.heap.size wr u11) := ⟨Below.grown_row B12.out hgrow B12.out.size R12.out (Nat.le_refl _)⟩
                      have R11 := Aside0.mk hown
                      simp only [Nat.zero_add, List.nil_append] at R11 ⊢
                      have G11 : Aside0 (u11.heap[g12]? = some (.cells #[.int .i64 40] 3 (0, 0))) := ⟨(hgrow.block g12 (Array.getElem?_eq_some_iff.1 G12.out).1 (by simp [Value.ownBlock]; have := N12.out; omega)).trans G12.out⟩
                      clear hown hgrow
                      refine hK.out _ _ ⟨(show Boxed _ H 22 _ from (B11.out.block H XA.out.lt).trans XA.out).cell, (show Boxed _ (H + 1) 22 _ from (B11.out.block (H + 1) XB.out.lt).trans XB.out).cell, (show Boxed _ G 22 _ from (B11.out.block G XC.out.lt).trans XC.out).cell⟩ (fun hHeld => ?_)
                      clear hK K_
                      refine norm_ (a' := ?_) ?_ ?_
                      rotate_left
                      · show Act.put _ (some 93) _ = _
                        simp only [Act.put, List.setIfInBounds_toArray, List.set_cons_zero, List.set_cons_succ, i64_w, i32_w]
                        rfl
                      exact norm_ (by simp only [putAll, Act.put, List.setIfInBounds_toArray, List.set_cons_zero, List.set_cons_succ]) (hCont (.slice (some ⟨g9, 0, none⟩) 0 0, .slice A11 n c11, .slice (some ⟨g12, 0, none⟩) 1 1) _ ⟨hHeld, A11, c11, g12, rfl, rfl, B11.out, R11.out, G11.out⟩)
                  · skip
                    refine value_ (w1 := ?_) (v := ?_) (by rfl) rfl ?_ ?_
                    rotate_left 2
                    · go_simp
                      constructor
                      · rfl
                      · rfl
                    obtain ⟨u12, hu12⟩ : ∃ u, u6.alloc (.cells #[.int .i64 40] 3) = u := ⟨_, rfl⟩
                    rw [hu12]
                    have hG := World.alloc_heap_new u6 (.cells #[.int .i64 40] 3)
                    rw [hu12] at hG
                    have B12 : Aside0 (Below wr.heap.size wr u12) := ⟨by rw [← hu12]; exact B6.out.alloc B6.out.size _⟩
                    obtain ⟨g12, hg12⟩ : ∃ g, g = u6.heap.size := ⟨_, rfl⟩
                    rw [← hg12] at hG ⊢
                    have G12 := Aside0.mk hG
                    clear hu12 hg12 hG
                    refine hK.out _ _ ⟨(show Boxed _ H 22 _ from (B12.out.block H XA.out.lt).trans XA.out).cell, (show Boxed _ (H + 1) 22 _ from (B12.out.block (H + 1) XB.out.lt).trans XB.out).cell, (show Boxed _ G 22 _ from (B12.out.block G XC.out.lt).trans XC.out).cell⟩ (fun hHeld => ?_)
                    clear hK K_
                    refine norm_ (a' := ?_) ?_ ?_
                    rotate_left
                    · show Act.put _ (some 94) _ = _
                      simp only [Act.put, List.setIfInBounds_toArray, List.set_cons_zero, List.set_cons_succ, i64_w, i32_w]
                      rfl
                    refine one_ (i := 9) (N := some 91) #[true, true, true, true, true, true, true, true, true, true, true, false, true, false, false, false, false, false, false, false] rfl rfl (by kernel_rfl) (by decide) (fun K_ hK => ?_)
                    refine value_ (w1 := ?_) (v := ?_) (by rfl) rfl ?_ ?_
                    rotate_left 2
                    · go_simp
                      constructor
                      · rfl
                      · rfl
                    obtain ⟨u9, hu9⟩ : ∃ u, u12.alloc (.cells #[] 3) = u := ⟨_, rfl⟩
                    rw [hu9]
                    have hR9 := World.ownsRow_lit (base := wr.heap.size) (size := 1) (e := 3) u12 #[] 0 B12.out.size (Nat.zero_le _) rfl
                    rw [hu9] at hR9
                    have R9 := Aside0.mk hR9
                    have B9 : Aside0 (Below wr.heap.size wr u9) := ⟨by rw [← hu9]; exact B12.out.alloc B12.out.size _⟩
                    obtain ⟨g9, hg9⟩ : ∃ g, g = u12.heap.size := ⟨_, rfl⟩
                    rw [← hg9] at R9 ⊢
                    have G9 : Aside0 (u9.heap[g12]? = some (.cells #[.int .i64 40] 3 (0, 0))) := ⟨by rw [← hu9]; exact (Below.heap_alloc _ _ _ (Array.getElem?_eq_some_iff.1 G12.out).1).trans G12.out⟩
                    have N9 : Aside0 (g12 < g9) := ⟨by rw [hg9]; exact (Array.getElem?_eq_some_iff.1 G12.out).1⟩
                    clear hu9 hg9 hR9
                    refine hK.out _ _ ⟨(show Boxed _ H 22 _ from (B9.out.block H XA.out.lt).trans XA.out).cell, (show Boxed _ (H + 1) 22 _ from (B9.out.block (H + 1) XB.out.lt).trans XB.out).cell, (show Boxed _ G 22 _ from (B9.out.block G XC.out.lt).trans XC.out).cell⟩ (fun hHeld => ?_)
                    clear hK K_
                    refine norm_ (a' := ?_) ?_ ?_
                    rotate_left
                    · show Act.put _ (some 91) _ = _
                      simp only [Act.put, List.setIfInBounds_toArray, List.set_cons_zero, List.set_cons_succ, i64_w, i32_w]
                      rfl
                    refine one_ (i := 11) (N := some 93) #[true, true, true, true, true, true, true, true, true, true, true, true, true, false, false, false, false, false, false, false] rfl rfl (by kernel_rfl) (by decide) (fun K_ hK => ?_)
                    refine app_ (by rfl) rfl (.tmp 91) (.tmp 92) rfl wr.heap.size (.slice (some ⟨g9, 0, none⟩) 0 0) 0 [] (by rfl) R9.out (some ⟨ga, 0, none⟩) n cap la (by rfl) HLn.out (HRAw.out.below B9.out) (by simp) (by omega) B9.out.size ?_
                    intro v93 u11 hown hgrow
                    obtain ⟨A11, c11, rfl⟩ := slice_of_row hown
                    have B11 : Aside0 (Below wr.heap.size wr u11) := ⟨Below.grown_row B9.out hgrow B9.out.size R9.out (Nat.le_refl _)⟩
                    have R11 := Aside0.mk hown
                    simp only [Nat.zero_add, List.nil_append] at R11 ⊢
                    have G11 : Aside0 (u11.heap[g12]? = some (.cells #[.int .i64 40] 3 (0, 0))) := ⟨(hgrow.block g12 (Array.getElem?_eq_some_iff.1 G9.out).1 (by simp [Value.ownBlock]; have := N9.out; omega)).trans G9.out⟩
                    clear hown hgrow
                    refine hK.out _ _ ⟨(show Boxed _ H 22 _ from (B11.out.block H XA.out.lt).trans XA.out).cell, (show Boxed _ (H + 1) 22 _ from (B11.out.block (H + 1) XB.out.lt).trans XB.out).cell, (show Boxed _ G 22 _ from (B11.out.block G XC.out.lt).trans XC.out).cell⟩ (fun hHeld => ?_)
                    clear hK K_
                    refine norm_ (a' := ?_) ?_ ?_
                    rotate_left
                    · show Act.put _ (some 93) _ = _
                      simp only [Act.put, List.setIfInBounds_toArray, List.set_cons_zero, List.set_cons_succ, i64_w, i32_w]
                      rfl
                    exact norm_ (by simp only [putAll, Act.put, List.setIfInBounds_toArray, List.set_cons_zero, List.set_cons_succ]) (hCont (.slice (some ⟨g9, 0, none⟩) 0 0, .slice A11 n c11, .slice (some ⟨g12, 0, none⟩) 1 1) _ ⟨hHeld, A11, c11, g12, rfl, rfl, B11.out, R11.out, G11.out⟩)
                rintro ⟨v91, v93, v94⟩ uf ⟨hHeld, A11, c11, g12, e1, e2, hb_, hr_, hg_⟩
                dsimp only at e1 e2 ⊢
                subst e1 e2
                have BF := Aside0.mk hb_
                have RF := Aside0.mk hr_
                have GF := Aside0.mk hg_
                clear hb_ hr_ hg_
                refine norm_ (a' := ?_) ?_ ?_
                rotate_left
                · simp only [putAll, Act.put, List.setIfInBounds_toArray, List.set_cons_zero, List.set_cons_succ]
                  rfl
                refine one_ (i := 13) (N := some 95) #[true, true, true, true, true, true, true, true, true, true, true, true, true, true, false, false, false, false, false, false] rfl rfl (by kernel_rfl) (by decide) (fun K_ hK => ?_)
                refine app_ (by rfl) rfl (.tmp 93) (.tmp 94) rfl wr.heap.size (.slice A11 n c11) n (la.map (Value.int .i64)) (by rfl) RF.out (some ⟨g12, 0, none⟩) 1 1 [40] (by rfl) rfl (IR.one GF.out) (by simp) (by omega) BF.out.size ?_
                intro v95 u13 hown hgrow
                obtain ⟨A13, c13, rfl⟩ := slice_of_row hown
                have B13 : Aside0 (Below wr.heap.size wr u13) := ⟨Below.grown_row BF.out hgrow BF.out.size RF.out (Nat.le_refl _)⟩
                rw [← List.map_append] at hown
                have R13 := Aside0.mk (IR.of_row hown)
                clear hown hgrow
                have c14 := same12 A3 A13 cap3 c13 (la ++ [40]) (la ++ [40]) u13 (HRCw.out.below B13.out) R13.out (by rw [List.length_append, HLn.out]; show _ + 1 < _; omega)
                rw [List.length_append, HLn.out, decide_eq_true rfl] at c14
                have C14 : Aside0 (Calls Try.prog 12 #[.slice A3 (n + 1) cap3, .slice A13 (n + 1) c13] u13 (SameEnd u13 true)) := ⟨c14⟩
                clear c14
                refine hK.out _ _ ⟨(show Boxed _ H 22 _ from (B13.out.block H XA.out.lt).trans XA.out).cell, (show Boxed _ (H + 1) 22 _ from (B13.out.block (H + 1) XB.out.lt).trans XB.out).cell, (show Boxed _ G 22 _ from (B13.out.block G XC.out.lt).trans XC.out).cell⟩ (fun hHeld => ?_)
                clear hK K_
                refine norm_ (a' := ?_) ?_ ?_
                rotate_left
                · show Act.put _ (some 95) _ = _
                  simp only [Act.put, List.setIfInBounds_toArray, List.set_cons_zero, List.set_cons_succ, i64_w, i32_w]
                  rfl
                refine one_ (i := 14) (N := some 96) #[true, true, true, true, true, true, true, true, true, true, true, true, true, true, true, false, false, false, false, false] rfl rfl (by kernel_rfl) (by decide) (fun K_ hK => ?_)
                refine goes_ Try.func12 (by kernel_rfl) rfl #[.slice A3 (n + 1) cap3, .slice A13 (n + 1) c13] (by rfl) rfl rfl (by simp only [List.map_toArray, List.map_cons, List.map_nil]; rfl) ?_
                with_reducible refine (C14.out).mono ?_
                rintro e u14 ⟨rfl, hb_⟩
                have B14 : Aside0 (Below wr.heap.size wr u14) := ⟨B13.out.trans (hb_.mono B13.out.size)⟩
                clear hb_
                refine ⟨_, rfl, ?_⟩
                refine hK.out _ _ ⟨(show Boxed _ H 22 _ from (B14.out.block H XA.out.lt).trans XA.out).cell, (show Boxed _ (H + 1) 22 _ from (B14.out.block (H + 1) XB.out.lt).trans XB.out).cell, (show Boxed _ G 22 _ from (B14.out.block G XC.out.lt).trans XC.out).cell⟩ (fun hHeld => ?_)
                clear hK K_
                refine norm_ (a' := ?_) ?_ ?_
                rotate_left
                · show Act.put _ (some 96) _ = _
                  simp only [Act.put, List.setIfInBounds_toArray, List.set_cons_zero, List.set_cons_succ, i64_w, i32_w]
                  rfl
                refine pure_ (i := 15) (N := some 97) (v := ?_) (a' := ?_) #[true, true, true, true, true, true, true, true, true, true, true, true, true, true, true, true, false, false, false, false] rfl rfl (by kernel_rfl) (fun _ _ _ h => h) (Or.inl ⟨by rfl, ?_⟩) ?_ ?_
                rotate_left
                · intro w'
                  go_simp
                  with_reducible rfl
                rotate_left
                · simp only [Act.put, List.setIfInBounds_toArray, List.set_cons_zero, List.set_cons_succ, i64_w, i32_w]
                  rfl
                refine pure_ (i := 16) (N := some 98) (v := ?_) (a' := ?_) #[true, true, true, true, true, true, true, true, true, true, true, true, true, true, true, true, true, false, false, false] rfl rfl (by kernel_rfl) (fun _ _ _ h => h) (Or.inl ⟨by rfl, ?_⟩) ?_ ?_
                rotate_left
                · intro w'
                  go_simp
                  with_reducible rfl
                rotate_left
                · simp only [Act.put, List.setIfInBounds_toArray, List.set_cons_zero, List.set_cons_succ, i64_w, i32_w]
                  rfl
                refine one_ (i := 17) (N := some 99) #[true, true, true, true, true, true, true, true, true, true, true, true, true, true, true, true, true, true, false, false] rfl rfl (by kernel_rfl) (by decide) (fun K_ hK => ?_)
                refine goes_ Try.func14 (by kernel_rfl) rfl #[] (by rfl) rfl rfl (by simp only [List.map_toArray, List.map_nil]) ?_
                with_reducible refine (awake14 u14).mono ?_
                rintro e u17 ⟨rfl, hb_⟩
                have B17 : Aside0 (Below wr.heap.size wr u17) := ⟨B14.out.trans (hb_.mono B14.out.size)⟩
                clear hb_
                refine ⟨_, rfl, ?_⟩
                refine hK.out _ _ ⟨(show Boxed _ H 22 _ from (B17.out.block H XA.out.lt).trans XA.out).cell, (show Boxed _ (H + 1) 22 _ from (B17.out.block (H + 1) XB.out.lt).trans XB.out).cell, (show Boxed _ G 22 _ from (B17.out.block G XC.out.lt).trans XC.out).cell⟩ (fun hHeld => ?_)
                clear hK K_
                refine norm_ (a' := ?_) ?_ ?_
                rotate_left
                · show Act.put _ (some 99) _ = _
                  simp only [Act.put, List.setIfInBounds_toArray, List.set_cons_zero, List.set_cons_succ, i64_w, i32_w]
                  rfl
                refine pure_ (i := 18) (N := some 100) (v := ?_) (a' := ?_) #[true, true, true, true, true, true, true, true, true, true, true, true, true, true, true, true, true, true, true, false] rfl rfl (by kernel_rfl) (fun _ _ _ h => h) (Or.inl ⟨by rfl, ?_⟩) ?_ ?_
                rotate_left
                · intro w'
                  go_simp
                  with_reducible rfl
                rotate_left
                · simp only [Act.put, List.setIfInBounds_toArray, List.set_cons_zero, List.set_cons_succ, i64_w, i32_w]
                  rfl
                refine pure_ (i := 19) (N := some 2) (v := ?_) (a' := ?_) #[true, true, true, true, true, true, true, true, true, true, true, true, true, true, true, true, true, true, true, true] rfl rfl (by kernel_rfl) (fun _ _ _ h => h) (Or.inl ⟨by rfl, ?_⟩) ?_ ?_
                rotate_left
                · intro w'
                  go_simp
                  with_reducible rfl
                rotate_left
                · simp only [Act.put, List.setIfInBounds_toArray, List.set_cons_zero, List.set_cons_succ, i64_w, i32_w]
                  rfl
                refine done_ (by kernel_rfl) ?_
                go_wp2_with fail
                have q3 : u17.heap[D3]? = some (.deferred (some [])) := (B17.out.block D3 (Array.getElem?_eq_some_iff.1 HKW.out.2.2).1).trans HKW.out.2.2
                have q2 : u17.heap[D']? = some (.deferred (some [])) := (B17.out.block D' (Array.getElem?_eq_some_iff.1 HKW.out.2.1).1).trans HKW.out.2.1
                have q1 : u17.heap[D]? = some (.deferred (some [])) := (B17.out.block D (Array.getElem?_eq_some_iff.1 HKW.out.1).1).trans HKW.out.1
                have q2' := (World.putObj_heap_other (w := u17) (r := D3) (o := .deferred none) (show D' ≠ D3 by omega)).trans q2
                have q1' := (World.putObj_heap_other (w := u17) (r := D3) (o := .deferred none) (show D ≠ D3 by omega)).trans q1
                have q1'' := (World.putObj_heap_other (w := u17.putObj D3 (.deferred none)) (r := D') (o := .deferred none) (show D ≠ D' by omega)).trans q1'
                refine ⟨by simp, .inl ⟨_, _, rfl, run_takeDeferred q3, ?_⟩⟩
                refine ⟨by simp, .inl ⟨_, _, rfl, run_takeDeferred q2', ?_⟩⟩
                refine ⟨by simp, .inl ⟨_, _, rfl, run_takeDeferred q1'', ?_⟩⟩
                exact ⟨_, results_tmp rfl _ _ _, rfl, (((HTw.out.trans (B17.out.mono HTw.out.size)).trans (belowK_b (w := w) (Nat.le_refl _) _ D3 _ _ HDD.out.2.2 q3 rfl rfl)).trans (belowK_b (w := w) (Nat.le_refl _) _ D' _ _ HDD.out.2.1 q2' rfl rfl)).trans (belowK_b (w := w) (Nat.le_refl _) _ D _ _ HDD.out.1 q1'' rfl rfl)⟩
  case first => as_aux_lemma =>
    go_wp2_with fail
    go_loopw [4] (fun v wr => ∃ (k : Nat) (s : Wd), v = .int .i64 (k : Int) ∧ k ≤ len ∧ k ≤ 30 ∧ Aside0 (Wn 61 wr b m k s) ∧ Aside0 (Iv k s) ∧ Aside0 (G32 s) ∧ Aside0 (Below w.heap.size w wr)) (fun v _ => (30 - intOf v).toNat)
    case atStart => exact ⟨0, ⟨0, 0, 0, fun _ => none⟩, rfl, Nat.zero_le _, Nat.zero_le _, HW, HI, ⟨⟨rfl, by decide⟩⟩, HT⟩
    case round =>
      clear HT HW HI
      obtain ⟨k, s, rfl, hk, hk2, HW, HI, HG, HT⟩ := hrel
      by_cases hlt : k < len
      · by_cases hlt2 : k < 30
        · obtain ⟨x, hxa, hcell⟩ := HR.out (by omega)
          obtain ⟨z, hz⟩ := hcell k hlt
          obtain ⟨N, hbN, hN⟩ := bits_lt z 5 31 31 rfl (by decide) (by decide)
          have hd := (HT.out.cell (World.block_lt_of_cell? w _ hz)).trans hz
          clear hz hcell
          subst hxa
          have hkl : (k : Int) < (len : Int) := by omega
          have hk3 : (k : Int) < 30 := by omega
          have hk0 : (0 : Int) ≤ (k : Int) := by omega
          go_wp2_with fail
          refine (put9 b m k s ((N : Int) + 1) (.int .i64 (k : Int)) wr HW.out HI.out (by omega) ⟨by omega, by omega⟩).mono ?_
          rintro e w2 ⟨r, s', rfl, hp, hw, hi, ht⟩
          have HG := Aside0.mk (g32_put HG.out hp (by omega))
          have HT := Aside0.mk (HT.out.trans (ht.below hb0 hm0 HT.out.size))
          have HW := Aside0.mk hw
          have HI := Aside0.mk hi
          clear hp hw hi ht
          go_wp2_with fail
          go_roundw
          case rel => exact ⟨k + 1, s', by push_cast; rfl, by omega, by omega, HW, HI, HG, HT⟩
          case measure => simp [intOf]; omega
        · have hk30 : k = 30 := by omega
          have hkl : (k : Int) < (len : Int) := by omega
          have hk3 : ¬ ((k : Int) < 30) := by omega
          go_wp2_with fail
          go_meet
          exact ⟨k, s, wr, rfl, hk2, HW, HI, HG, HT⟩
      · have hkl : ¬ ((k : Int) < (len : Int)) := by omega
        go_wp2_with fail
        go_meet
        exact ⟨k, s, wr, rfl, hk2, HW, HI, HG, HT⟩
end Go.Proofs.Ythoekmedkmonhaa.Wi
namespace Go.Proofs.Ythoekmedkmonhaa.windAll
open Go.ChangeShapes Go.WideShapes Go.ChangeAt Go.RowKit Go.Proofs.YthoekmedkmonhaaW
open Go.ChangeMaps (open_string shut_string)
theorem own : ownKnob Try.prog.godebug = none := by kernel_rfl
theorem laidOut : laidOutB Try.prog = true := by kernel_rfl
def IsRow (k : IntKind) (w : World) (a : Option Addr) (len cap : Nat) (zs : List Int) : Prop :=
  (a = none ∧ len = 0 ∧ cap = 0 ∧ zs = []) ∨
  ∃ x, a = some x ∧ len ≤ cap ∧ cap ≤ maxLen ∧ zs.length = cap ∧ (∀ i, i < zs.length → w.cell? (x.add i) = some (.int k (zs.getD i 0))) ∧ ∀ n ∈ zs, (Lit.int k n).wf = true
theorem rowI {w : World} {a : Option Addr} {len cap : Nat} {zs : List Int} (h : IsRow .i64 w a len cap zs) : Wi.RowI w a len := by
  intro h0
  rcases h with ⟨_, rfl, _⟩ | ⟨x, rfl, h1, h2, h3, h4, _⟩
  · exact absurd h0 (Nat.lt_irrefl 0)
  · exact ⟨x, rfl, fun j hj => ⟨_, h4 j (by omega)⟩⟩
set_option maxRecDepth 100000 in
theorem lifted (os : Os) (started : os.Started) (H : Type) (enc : TypeId × Value → H) :
    ReturnsInHanded {} Try.checked os 7 .any (Rows.windAllSpec.pre6 enc Try.prog Try.f7 Rows.windAllRow.domain false) (Rows.windAllSpec.post enc Try.prog Try.f7 false true false false) := by
  refine returnsInHanded_of_change_sized (C := Try.checked) own started (by kernel_rfl) Try.func7
    (ChangeSpec.witness6 (enc := enc) (C := Try.checked) false ⟨#[], #[.slice none 0 0], []⟩ 8 (by kernel_rfl) (by kernel_rfl) (by kernel_rfl) (by kernel_rfl)) ?_
  intro W base args ds gs before hval0 hW hcnd hsz0 _
  have hsz : (DataW.weightsEach Try.prog (Try.f7.params.toList ++ Rows.windAllSpec.plain.varTypes Try.prog) (ds ++ gs)).all (· ≤ reachBytes) = true := hsz0
  have hval : ∀ (j : Nat) t v, Try.f7.params[j]? = some t → args[j]? = some v → Value.okWide Try.prog W .any base t v := hval0
  have hW' := hW
  obtain ⟨p, q, hA0, hV, rfl, hfz, hnd⟩ := hW
  have hA : DataW.TrodAll enc Try.prog W 0 (fun _ => true) true Try.f7.params.toList args.toList ds p := hA0
  rw [Try.params7] at hA hval hsz
  obtain ⟨v0, vs0, d0, ds0, p0, q0, hargs, rfl, rfl, h0, r0⟩ := trodAll_cons hA
  obtain ⟨rfl, rfl, rfl⟩ := trodAll_nil r0
  obtain rfl : args = #[v0] := by cases args; simp_all
  obtain ⟨rfl, rfl⟩ := trodVars_none hV
  obtain ⟨a0, len0, cap0, rfl⟩ := okWide_slice Try.underlying22 (hval 0 22 v0 rfl rfl)
  have k0 := h0
  have lt0 : ∀ x ∈ p0, x.block < W.heap.size := by obtain ⟨m, hm⟩ := k0; exact DataW.trod_lt m _ _ _ hm
  obtain ⟨z0, w0⟩ : ∃ zs, IsRow .i64 W a0 len0 cap0 zs := by
    obtain ⟨fuel, hf⟩ := h0
    rcases open_ints Try.underlying22 Try.underlying3 (by kernel_rfl) hf with ⟨hcs, _⟩ | ⟨x, l, c, zs, hcs, _, hl, hm, hz, _, hcell, hwz⟩
    · simp [Value.cells] at hcs
      obtain ⟨rfl, rfl, rfl⟩ := hcs
      exact ⟨[], .inl ⟨rfl, rfl, rfl, rfl⟩⟩
    · simp [Value.cells] at hcs
      obtain ⟨rfl, rfl, rfl⟩ := hcs
      exact ⟨zs, .inr ⟨_, rfl, hl, hm, by simpa using hz, hcell, hwz⟩⟩
  have y0 : len0 * 8 ≤ 140737488351232 := PrintWords.sized_ints hsz (j := 0) (t := 22) rfl rfl Try.underlying22 Try.underlying3 (by kernel_rfl) (by kernel_rfl) h0
  clear hA0 hval0 hsz0 hsz
  refine (Wi.all_calls a0 len0 cap0 W (rowI w0) (by omega)).mono fun e W' ⟨he, bel⟩ => ?_
  subst he
  exact ⟨_, rfl, _, _, _, [], _, [], hW', trodAll_mk1 (shut_bool Try.underlying4 _), (trodAll_cons_mk (Below.trod laidOut (by kernel_rfl) (of_decide_eq_true (by kernel_rfl)) k0 bel lt0) trodAll_mk0), rfl, bel.frame _, fun h => by cases h⟩
theorem over : Rows.windAllRow.holds Try.pinned (OpenSpec.ofChange Rows.windAllSpec) :=
  OpenClaim.holds_of_wide 7 Try.f7 rfl rfl rfl rfl rfl rfl rfl ⟨rfl, rfl, rfl, rfl, rfl⟩ rfl rfl rfl rfl rfl (by kernel_rfl) Try.func7 (by kernel_rfl)
    (of_decide_eq_true (by kernel_rfl)) (by unfold Func.isWrapper; first | (rw [if_pos (by decide +kernel)]; kernel_rfl) | (rw [if_neg (by decide +kernel)]; exact ⟨rfl, rfl⟩))
    (fun os started H enc _ => lifted os started H enc)
theorem proved : Rows.WindAllSaid := over
end Go.Proofs.Ythoekmedkmonhaa.windAll
namespace Go.Proofs.Ythoekmedkmonhaa
/-- The row, under a short name, for the claim. -/
theorem windAll_holds : Rows.WindAllSaid := windAll.proved
end Go.Proofs.Ythoekmedkmonhaa
