/- The walks of sess.Still and sess.Put, with what they call. -/
import Derived.Outline
import Derived.Lib.SliceRun
import Derived.Test.YtjpgnipjgonplaaSa
namespace Go.Proofs.Ytjpgnipjgonplaa.Ss
open Go.RowKit Go.Proofs.YtjpgnipjgonplaaW.PrintWords Go.Proofs.YtjpgnipjgonplaaW.PrintLast Go.Proofs.YtjpgnipjgonplaaW.PrintMore
attribute [local go_sem] max2_int min2_int max_two min_two max_three min_three max_four min_four
set_option linter.unusedVariables false
set_option linter.unusedSimpArgs false
set_option maxHeartbeats 1000000 in
theorem clone27 (A : Option Addr) (c n : Nat) (rows : List (List Value)) (w : World) (hr : Kd.C (Kd.raw 5) w A n rows) (hc : n ≤ c) (hb : n < 2513169434916) :
    Calls Try.prog 27 #[.slice A n c] w fun e w' => ∃ v, e = .returned v ∧ Kd.R (Kd.raw 5) 31 w' w.heap.size (fun _ => True) v rows ∧ Below w.heap.size w w' := by
  have HR := Aside0.mk hr
  have HC := Aside0.mk hc
  have hl : rows.length = n := hr.1
  have HL := Aside0.mk hl
  clear hr hc hl
  have qT := fun (w : World) (a : Option Addr) (n c n' c' : Nat) => Lib.run_eql_slice_nil (P := Try.prog) w 22 31 a n c n' c' Try.underlying22
  cases A with
  | none =>
    have hn : n = 0 := by
      rcases Nat.eq_zero_or_pos n with h | h
      · exact h
      · obtain ⟨ad, e, _⟩ := HR.out.2.2 h
        cases e
    obtain rfl : rows = [] := List.eq_nil_of_length_eq_zero (by rw [HL.out, hn])
    go_enter Try.func27, Try.ntmps27
    go_wp2_with fail
    go_ret
    exact ⟨_, rfl, Kd.R_nil _ _ _ _ _, Below.refl _ _⟩
  | some ad =>
    go_enter Try.func27, Try.ntmps27
    go_wp2_with (first | ((with_reducible refine gate_dst (N := 5) rfl ?_); refine Kd.R_lit (Kd.raw 5) _ 31 ?hg (N := 5) ?hd (xs := ([] : List (List Value))) (inner := []) (ok := fun _ => True) (okp := fun _ => True) ?hr ?hp (fun _ hk => hk) trivial (Below.refl _ _) (Nat.le_refl _) (by simp) ?_; (case hd => rfl); (case hg => rfl); (case hr => first | (go_simp; done) | (go_simp; rfl)); (case hp => exact (Reps.none _ _)); intro v1 w3 ho4 hb4 hg_ hnew_; clear hg_ hnew_; have HB := Aside0.mk hb4; have HO := Aside0.mk ho4; clear hb4 ho4) | ((with_reducible refine gate_builtin (b := .append) (xs := #[.tmp 5, .tmp 6]) rfl ?_); at_builtin; refine Kd.R_append_rows (Kd.raw 5) (w0 := w) w.heap.size rfl (.tmp 5) (.tmp 6) 22 31 (.agg #[(.int .i64 0), (.int .i64 0), (.int .i64 0), (.slice none 0 0), (.int .i64 0)]) 56 rfl Try.underlying22 info31 rfl (by decide) (by omega) v1 [] rows _ _ _ (fun _ => True) (fun _ => False) rfl rfl ?aO ?aR (fun _ _ h => h) (fun _ h => h.elim) ?aF ?aB ?aS ?aL ?_; (case aR => exact Kd.C_below HR.out HB.out); (case aB => exact HB.out); (case aF => exact (fun _ _ => trivial)); (case aO => exact HO.out); (case aS => exact HB.out.size); (case aL => simp; omega); intro v2 w5 ho hb5 hg hat; have HB5 := Aside0.mk hb5; have HO5 := Aside0.mk ho; clear ho hb5 hg hat))
    go_ret
    exact ⟨_, rfl, HO5.out, HB5.out⟩
set_option maxHeartbeats 1000000 in
theorem clip28 (A : Option Addr) (c n : Nat) (w : World) (hc : n ≤ c) (hm : c ≤ 9223372036854775807) (hA : A = none → n = 0) :
    Calls Try.prog 28 #[.slice A n c] w fun e w' => e = .returned (.slice A n n) ∧ w = w' := by
  have HC := Aside0.mk hc
  cases A with
  | none =>
    obtain rfl := hA rfl
    clear hA
    go_enter Try.func28, Try.ntmps28
    go_wp2_with fail
    go_ret
    exact ⟨rfl, rfl⟩
  | some ad =>
    clear hA
    go_enter Try.func28, Try.ntmps28
    go_wp2_with fail
    go_ret
    exact ⟨rfl, rfl⟩

theorem chunk_get {sz j i : Nat} {inner : List Value} (hi : i < sz) : (chunk sz j inner)[i]? = inner[j * sz + i]? := by
  simp [chunk, List.getElem?_take, hi, List.getElem?_drop]
theorem chunk_set_ne {sz j m : Nat} {inner : List Value} {v : Value} (h : m < j * sz ∨ j * sz + sz ≤ m) : chunk sz j (inner.set m v) = chunk sz j inner := by
  apply List.ext_getElem?
  intro i
  rcases Nat.lt_or_ge i sz with hi | hi
  · rw [chunk_get hi, chunk_get hi, List.getElem?_set_ne (by omega)]
  · simp [chunk, List.getElem?_take, Nat.not_lt.2 hi]
theorem chunk_set_eq {sz j i : Nat} {inner : List Value} {v : Value} (h : i < sz) : chunk sz j (inner.set (j * sz + i) v) = (chunk sz j inner).set i v := by
  apply List.ext_getElem?
  intro q
  rcases Nat.lt_or_ge q sz with hq | hq
  · rw [chunk_get hq]
    by_cases e : i = q
    · subst e
      rw [List.getElem?_set, List.getElem?_set, if_pos rfl, if_pos rfl]
      have : (j * sz + i < inner.length) ↔ (i < (chunk sz j inner).length) := by simp [chunk]; omega
      by_cases hb : j * sz + i < inner.length
      · rw [if_pos hb, if_pos (this.1 hb)]
      · rw [if_neg hb, if_neg (fun h => hb (this.2 h))]
    · rw [List.getElem?_set_ne (by omega), List.getElem?_set_ne e, chunk_get hq]
  · rw [List.getElem?_eq_none (by simp [chunk]; omega), List.getElem?_eq_none (by simp [chunk]; omega)]
/-- Up to i the elements are their own; from i on they are as they were read. -/
def SI (l : List S31) (w : World) (g cap i : Nat) (wr : World) : Prop :=
  ∃ inner, wr.ownsRow w.heap.size 31 5 (.slice (some ⟨g, 0, none⟩) l.length cap) l.length inner ∧ (∀ j x, l[j]? = some x → if j < i then k31.M wr w.heap.size (fun k => k ≠ g) x (chunk 5 j inner) else k31.K w x (chunk 5 j inner)) ∧ Below w.heap.size w wr
def StillEnd (w : World) (l : List S31) (e : Ending) (w' : World) : Prop := ∃ A', e = .returned (.slice A' l.length l.length) ∧ (A' = none → l = []) ∧ Fr k31 31 w' w.heap.size A' l ∧ Below w.heap.size w w'
set_option maxHeartbeats 1000000 in
theorem still18 (A : Option Addr) (c : Nat) (l : List S31) (w : World) (hr : Kd.C k31 w A l.length l) (hc : l.length ≤ c) (hb : l.length < 2513169434916) (hv : ∀ x ∈ l, x.f2.f1.length < 140737488355328) :
    Calls Try.prog 18 #[.slice A l.length c] w (StillEnd w l) := by
  have HR := Aside0.mk hr
  have HC := Aside0.mk hc
  have HV := Aside0.mk hv
  obtain ⟨rows, hrl, hrc, hrk⟩ := C_raw hr
  have HI := Aside0.mk (clone27 A c l.length rows w hrc hc hb)
  have HRK := Aside0.mk hrk
  have HRL := Aside0.mk hrl
  clear hr hc hrc hrk hrl hv
  go_enter Try.func18, Try.ntmps18
  go_wp2_with fail
  refine HI.out.mono ?_
  rintro e w1 ⟨v, rfl, ho, hb1⟩
  clear HI
  rcases Nat.eq_zero_or_pos l.length with h0 | h0
  · obtain ⟨A', c', e⟩ := Kd.R_slice ho
    rw [HRL.out, h0] at e
    subst e
    obtain rfl : l = [] := List.eq_nil_of_length_eq_zero h0
    have hcm : c' ≤ 9223372036854775807 := by
      obtain ⟨_, inner, hown, _⟩ := ho
      rcases hown.2 with ⟨h', _⟩ | ⟨g', cap', cur, h', _, _, h1, h2, _⟩
      · simp only [Value.slice.injEq] at h'
        omega
      · simp only [Value.slice.injEq] at h'
        unfold maxLen at h2
        omega
    have hbA := Aside0.mk hb1
    clear ho hb1 h0
    go_wp2_with fail
    go_loopw [9] (fun v9 w' => v9 = .int .i64 0 ∧ w' = w1) (fun _ _ => 0)
    case atStart => exact ⟨rfl, rfl⟩
    case round =>
      obtain ⟨rfl, rfl⟩ := hrel
      go_wp2_with fail
      refine (clip28 A' c' 0 _ (Nat.zero_le _) hcm (fun _ => rfl)).mono ?_
      rintro e w2 ⟨rfl, rfl⟩
      go_wp2_with fail
      go_ret
      exact ⟨A', rfl, fun _ => rfl, .inl rfl, hbA.out⟩
  · obtain ⟨g, cap, e, hgb, hgl, hgc, hgr⟩ := Kd.R_form ho (by rw [HRL.out]; exact h0)
    rw [HRL.out] at e
    subst e
    have hSI : SI l w g cap 0 w1 := by
      obtain ⟨_, inner, hown, hreps⟩ := ho
      rw [HRL.out] at hown
      refine ⟨inner, hown, fun j x hx => ?_, hb1⟩
      rw [if_neg (Nat.not_lt_zero j)]
      have hjl := (List.getElem?_eq_some_iff.1 hx).1
      have hjr : j < rows.length := by rw [HRL.out]; exact hjl
      have hr1 : rows[j]? = some rows[j] := List.getElem?_eq_getElem hjr
      have h1 := (hreps.2 j _ hr1).1
      show k31.K w x ((inner.drop (j * 5)).take 5)
      rw [show (inner.drop (j * 5)).take 5 = rows[j] from h1]
      exact HRK.out j x _ hx hr1
    have hcap : l.length ≤ cap ∧ cap ≤ 9223372036854775807 := by
      obtain ⟨_, inner, hown, _⟩ := ho
      rw [HRL.out] at hown
      rcases hown.2 with ⟨h', _⟩ | ⟨g', cap', cur, h', _, _, h1, h2, _⟩
      · simp at h'
      · simp only [Value.slice.injEq, Option.some.injEq, Addr.mk.injEq, and_true, true_and] at h'
        obtain ⟨rfl, rfl⟩ := h'
        exact ⟨h1, by unfold maxLen at h2; omega⟩
    obtain ⟨hcap1, hcap2⟩ := hcap
    have HS := Aside0.mk hSI
    clear hSI ho hgr hgc hb1 hgl HRK HRL
    go_wp2_with fail
    go_loopw [9] (fun v9 w' => ∃ k : Nat, v9 = .int .i64 k ∧ k ≤ l.length ∧ Aside0 (SI l w g cap k w')) (fun v9 _ => l.length - (intOf v9).toNat)
    case atStart => exact ⟨0, rfl, Nat.zero_le _, HS⟩
    case round =>
      clear HS
      obtain ⟨k, rfl, hk, HS⟩ := hrel
      obtain ⟨inner, hown, hel, hbel⟩ := HS.out
      by_cases hlt : k < l.length
      · have hx : l[k]? = some l[k] := List.getElem?_eq_getElem hlt
        have hK := hel k _ hx
        rw [if_neg (Nat.lt_irrefl k)] at hK
        have HVk := HV.out _ (List.getElem_mem hlt)
        generalize l[k] = x at hx hK HVk
        obtain ⟨A3, c3, ec, l3, g3⟩ := k31_open hK
        have hcell : wr.cell? ⟨g, k * 5 + 3, none⟩ = some (.slice A3 x.f2.f1.length c3) := by
          rw [hown.cellAt _ (by omega), ← chunk_get (sz := 5) (by decide), ec]
          rfl
        have hglt : g < wr.heap.size := (hown.lt g rfl).2
        have OW := Aside0.mk hown
        have EL := Aside0.mk hel
        have BL := Aside0.mk hbel
        have HX := Aside0.mk hx
        have G3 := Aside0.mk g3
        have L3 := Aside0.mk l3
        have HVk' := Aside0.mk HVk
        have EC := Aside0.mk ec
        have KL := Aside0.mk hlt
        clear hown hel hbel hx hK ec g3 l3 HVk HS
        go_wp2_with fail
        refine (clone17 A3 c3 x.f2.f1 wr (Kd.C_below G3.out BL.out) L3.out HVk'.out).mono ?_
        rintro e w2 ⟨v, rfl, ho, hb2⟩
        obtain ⟨Av, cv, ev⟩ := Kd.R_slice ho
        subst ev
        have OW2 := pw_own_below OW.out hb2
        obtain ⟨cg, hcg⟩ := own_typed OW2 g rfl
        have hfz : w2.frozen? ⟨g, k * 5 + 3, none⟩ = false := OW2.frozenAt _
        have hcell2 : w2.cell? ⟨g, k * 5 + 3, none⟩ = some (.slice A3 x.f2.f1.length c3) := (hb2.cell hglt).trans hcell
        have OWs := Aside0.mk OW2
        have HG := Aside0.mk hcg
        have HOs := Aside0.mk ho
        have HB2 := Aside0.mk hb2
        clear OW2 hcg ho hb2
        go_wp2_with fail
        go_roundw
        case rel =>
          refine ⟨k + 1, by go_num, by have := KL.out; omega, ⟨⟨inner.set (k * 5 + 3) (.slice Av x.f2.f1.length cv), (OWs.out.stored (k * 5 + 3) _).1, fun j y hy => ?_, (below_then BL.out BL.out.size HB2.out).setCell (p := ⟨g, k * 5 + 3, none⟩) hgb _⟩⟩⟩
          rcases Nat.lt_trichotomy j k with hj | hj | hj
          · rw [if_pos (by omega), chunk_set_ne (by omega)]
            have := EL.out j y hy
            rw [if_pos hj] at this
            exact Kd.M_far (p := ⟨g, k * 5 + 3, none⟩) (Kd.M_below this HB2.out) (fun _ hk => hk) _
          · subst hj
            rw [HX.out] at hy
            obtain rfl := Option.some.inj hy
            rw [if_pos (by omega), chunk_set_eq (by decide), EC.out]
            exact k31_mkM _ _ _ x (Kd.R_lower (Kd.R_mono (Kd.R_far (p := ⟨g, j * 5 + 3, none⟩) (Kd.R_types HOs.out HG.out (by decide)) (fun _ hk => hk.2) _) (fun _ hk => hk.2)) BL.out.size)
          · rw [if_neg (by omega), chunk_set_ne (by omega)]
            have := EL.out j y hy
            rw [if_neg (by omega)] at this
            exact this
        case measure => simp [intOf]; have := KL.out; omega
      · have hkl : k = l.length := by omega
        have HSs := HS
        clear HS hown hel hbel
        obtain rfl := hkl
        go_wp2_with fail
        refine (clip28 _ cap l.length _ hcap1 hcap2 (fun h => by cases h)).mono ?_
        rintro e w2 ⟨rfl, rfl⟩
        go_wp2_with fail
        go_ret
        obtain ⟨inner, hown, hel, hbel⟩ := HSs.out
        refine ⟨_, rfl, fun h => (by cases h), .inr ?_, hbel⟩
        rcases hown.2 with ⟨h', _⟩ | ⟨g', cap', cur, h', hb', hg', h1, h2, h3, h4⟩
        · simp at h'
        · simp only [Value.slice.injEq, Option.some.injEq, Addr.mk.injEq, and_true, true_and] at h'
          obtain ⟨rfl, rfl⟩ := h'
          refine ⟨g, cur, rfl, hgb, hg', by rw [h3]; exact Nat.mul_le_mul_right _ h1, by omega, ?_⟩
          show Reps _ 5 l (cur.toList.take (l.length * 5))
          rw [h4]
          refine ⟨hown.1, fun j y hy => ?_⟩
          have := hel j y hy
          rw [if_pos (List.getElem?_eq_some_iff.1 hy).1] at this
          exact this
end Go.Proofs.Ytjpgnipjgonplaa.Ss
