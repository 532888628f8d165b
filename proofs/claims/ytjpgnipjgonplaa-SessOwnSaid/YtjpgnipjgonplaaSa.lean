/- The walks of sess.find, slices.Clone over bytes and sess.Look; lemmas for the laws on sessions. -/
import Derived.Lib.SliceRun
import Derived.Test.YtjpgnipjgonplaaSk
namespace Go.Proofs.Ytjpgnipjgonplaa.Ss
open Go.RowKit Go.Proofs.YtjpgnipjgonplaaW.PrintWords Go.Proofs.YtjpgnipjgonplaaW.PrintLast Go.Proofs.YtjpgnipjgonplaaW.PrintMore
attribute [local go_sem] max2_int min2_int max_two min_two max_three min_three max_four min_four
set_option linter.unusedVariables false
set_option linter.unusedSimpArgs false

theorem close26 (s0 q e n sess : Int) (v : Value) (b : Nat) (w : World) (hb : w.cell? ⟨b, 0, none⟩ = some (.int .i64 sess)) :
    Calls Try.prog 26 #[.agg #[.int .i64 s0, .int .i64 q, .int .i64 e, v, .int .i64 n], .pointer (some ⟨b, 0, none⟩)] w fun e w' => e = .returned (.bool (decide (sess ≤ s0))) ∧ Below w.heap.size w w' := by
  have hlt := World.block_lt_of_cell? w _ hb
  go_enter Try.func26, Try.ntmps26
  go_wp2_with fail
  go_ret
  exact ⟨rfl, below_alloc (Below.refl _ _) _⟩
/-- The first that is not below s, or the length. -/
def fi (l : List S31) (s : Int) : Nat := (l.takeWhile (fun x => decide (x.f0 < s))).length
theorem fi_le (l : List S31) (s : Int) : fi l s ≤ l.length := (List.takeWhile_prefix _).length_le
theorem rd_get (l : List S31) (k : Nat) (h : k < l.length) : rd_T31 l (k : Int) = l[k] := by
  simp [rd_T31, List.getD_eq_getElem?_getD, List.getElem?_eq_getElem h]
theorem fi_of (l : List S31) (s : Int) (k : Nat) (hk : k ≤ l.length) (h1 : ∀ j, j < k → (rd_T31 l (j : Int)).f0 < s) (h2 : k = l.length ∨ s ≤ (rd_T31 l (k : Int)).f0) : fi l s = k := by
  induction l generalizing k with
  | nil => simp at hk; subst hk; rfl
  | cons x l ih =>
    cases k with
    | zero =>
      have h3 : s ≤ x.f0 := by
        rcases h2 with h2 | h2
        · simp at h2
        · rw [rd_get _ 0 (by simp)] at h2; exact h2
      simp [fi, List.takeWhile_cons, Int.not_lt.2 h3]
    | succ k =>
      have h3 := h1 0 (by omega)
      rw [rd_get _ 0 (by simp)] at h3
      have hs : ∀ j : Nat, j < l.length → rd_T31 (x :: l) ((j + 1 : Nat) : Int) = rd_T31 l (j : Int) := fun j hj => by
        rw [rd_get _ _ (by simpa using hj), rd_get _ _ hj]; rfl
      have := ih k (by simpa using hk) (fun j hj => by rw [← hs j (by simp at hk; omega)]; exact h1 (j + 1) (by omega)) (by
        rcases h2 with h2 | h2
        · left; simpa using h2
        · rcases Nat.lt_or_ge k l.length with h4 | h4
          · right; rw [← hs k h4]; exact h2
          · left; simp at hk; omega)
      simp only [List.getElem_cons_zero] at h3
      simp only [fi, List.takeWhile_cons, h3, decide_true, if_true, List.length_cons]
      simp only [fi] at this
      rw [this]
theorem fi_spec (l : List S31) (s : Int) (h : fi l s < l.length) : s ≤ (rd_T31 l (fi l s : Int)).f0 := by
  induction l with
  | nil => simp at h
  | cons x l ih =>
    by_cases hx : x.f0 < s
    · have e : fi (x :: l) s = fi l s + 1 := by simp [fi, List.takeWhile_cons, hx]
      rw [e] at h ⊢
      have h2 : fi l s < l.length := by simpa using h
      rw [rd_get _ _ (by simpa using h2)]
      have := ih h2
      rw [rd_get _ _ h2] at this
      exact this
    · have e : fi (x :: l) s = 0 := by simp [fi, List.takeWhile_cons, hx]
      rw [e, rd_get _ 0 (by simp)]
      show s ≤ x.f0
      omega
def ixr (l : List S31) (s : Int) : Int := if fi l s < l.length then (fi l s : Int) else -1
set_option maxHeartbeats 1000000 in
theorem idx25 (A : Option Addr) (c : Nat) (l : List S31) (s : Int) (b : Nat) (w : World) (hr : Kd.C k31 w A l.length l) (hc : l.length ≤ c) (hb : w.cell? ⟨b, 0, none⟩ = some (.int .i64 s)) :
    Calls Try.prog 25 #[.slice A l.length c, .func (.func 26) #[] #[.pointer (some ⟨b, 0, none⟩)]] w fun e w' => e = .returned (.int .i64 (ixr l s)) ∧ Below w.heap.size w w' := by
  have HR := Aside0.mk hr
  have HC := Aside0.mk hc
  have HBx := Aside0.mk hb
  have hlen : l.length ≤ 9223372036854775807 := hr.2.1
  have HB := Aside0.mk (Below.refl w.heap.size w)
  clear hr hc hb
  go_enter Try.func25, Try.ntmps25
  go_wp2_with fail
  go_loopw [8] (fun v8 w' => ∃ k : Nat, v8 = .int .i64 k ∧ k ≤ l.length ∧ Aside0 (∀ j : Nat, j < k → (rd_T31 l (j : Int)).f0 < s) ∧ Aside0 (Below w.heap.size w w')) (fun v8 _ => l.length - (intOf v8).toNat)
  case atStart => exact ⟨0, rfl, Nat.zero_le _, ⟨fun j h => absurd h (Nat.not_lt_zero j)⟩, HB⟩
  case round =>
    clear HB
    obtain ⟨k, rfl, hk, HA, HB⟩ := hrel
    have hbx := (HB.out.cell (World.block_lt_of_cell? w _ HBx.out)).trans HBx.out
    by_cases hlt : k < l.length
    · obtain ⟨ad, A3, c3, e, h0, h1, h2, h3, h4, l3, g3⟩ := at_T31 (Kd.C_below HR.out HB.out) (k : Int) (by omega) (by omega)
      cases e
      clear l3 g3
      simp only [Int.toNat_natCast] at h0 h1 h2 h3 h4
      by_cases hx : s ≤ (rd_T31 l (k : Int)).f0
      · have hxb : decide (s ≤ (rd_T31 l (k : Int)).f0) = true := decide_eq_true hx
        go_wp2_with (first | (go_at_call 26; refine (close26 _ _ _ _ _ _ _ _ hbx).mono ?_; rintro e w1 ⟨rfl, hb1⟩))
        go_ret
        refine ⟨?_, below_then HB.out HB.out.size hb1⟩
        have := fi_of l s k hk HA.out (.inr hx)
        show Ending.returned (.int .i64 (k : Int)) = _
        rw [ixr, if_pos (by omega), this]
      · have hxb : decide (s ≤ (rd_T31 l (k : Int)).f0) = false := decide_eq_false hx
        go_wp2_with (first | (go_at_call 26; refine (close26 _ _ _ _ _ _ _ _ hbx).mono ?_; rintro e w1 ⟨rfl, hb1⟩))
        go_roundw
        case rel => exact ⟨k + 1, by go_num, by omega, ⟨fun j hj => by
          rcases Nat.lt_or_ge j k with h5 | h5
          · exact HA.out j h5
          · obtain rfl : j = k := by omega
            omega⟩, ⟨below_then HB.out HB.out.size hb1⟩⟩
        case measure => simp [intOf]; omega
    · go_wp2
      go_ret
      refine ⟨?_, HB.out⟩
      have := fi_of l s k hk HA.out (.inl (by omega))
      show Ending.returned (.int .i64 (-1)) = _
      rw [ixr, if_neg (by omega)]

/-- Is the session there? -/
def there (l : List S31) (s : Int) : Bool := decide (fi l s < l.length ∧ (rd_T31 l (fi l s : Int)).f0 = s)
set_option maxHeartbeats 1000000 in
theorem find15 (A : Option Addr) (c : Nat) (l : List S31) (s : Int) (w : World) (hr : Kd.C k31 w A l.length l) (hc : l.length ≤ c) :
    Calls Try.prog 15 #[.slice A l.length c, .int .i64 s] w fun e w' => e = .returned (.tuple #[.int .i64 (fi l s), .bool (there l s)]) ∧ Below w.heap.size w w' := by
  have HR := Aside0.mk hr
  have HC := Aside0.mk hc
  have hlen : l.length ≤ 9223372036854775807 := hr.2.1
  have hfl := fi_le l s
  have HI := Aside0.mk (idx25 A c l s w.heap.size (w.alloc (.cells #[.int .i64 s] 3)) (Kd.C_alloc hr _) hc (by simp))
  clear hr hc
  by_cases hlt : fi l s < l.length
  · have HT : Aside0 (there l s = ((rd_T31 l (fi l s : Int)).f0 == s)) := ⟨by rw [there, Bool.eq_iff_iff]; simp [hlt]⟩
    have HX : Aside0 (ixr l s = (fi l s : Int)) := ⟨by rw [ixr, if_pos hlt]⟩
    generalize fi l s = k at *
    generalize hf : (rd_T31 l (k : Int)).f0 = f at *
    have HFf := Aside0.mk hf
    clear hf
    generalize there l s = t at *
    obtain rfl := HT.out
    go_enter Try.func15, Try.ntmps15
    go_wp2_with fail
    refine HI.out.mono ?_
    rintro e w1 ⟨rfl, hb1⟩
    rw [HX.out]
    have hbox : w1.cell? ⟨w.heap.size, 0, none⟩ = some (.int .i64 s) := (hb1.cell (by simp)).trans (by simp)
    have hB : Below w.heap.size w w1 := below_then (below_alloc (Below.refl _ _) _) (by simp) hb1
    obtain ⟨ad, A3, c3, e, h0, h1, h2, h3, h4, l3, g3⟩ := at_T31 (Kd.C_below HR.out hB) (k : Int) (by omega) (by omega)
    cases e
    clear l3 g3 h1 h2 h3 h4
    rw [HFf.out] at h0
    simp only [Int.toNat_natCast] at h0
    have HBb := Aside0.mk hB
    clear hB hb1 HI
    go_wp2_with fail
    go_region_held3 (fun w' => w'.cell? ⟨w.heap.size, 0, none⟩ = some (.int .i64 s) ∧ w'.cell? (ad.add (k * 5)) = some (.int .i64 f)) (go_keep) (fail)
    go_wp2
    go_ret2
    exact ⟨rfl, below_drew1 HBb.out⟩
  · have HX : Aside0 (ixr l s = -1) := ⟨by rw [ixr, if_neg hlt]⟩
    have HT : there l s = false := by simp [there, hlt]
    have HF : fi l s = l.length := by omega
    rw [HT, HF]
    clear HT HF
    go_enter Try.func15, Try.ntmps15
    go_wp2_with fail
    refine HI.out.mono ?_
    rintro e w1 ⟨rfl, hb1⟩
    rw [HX.out]
    have hB : Below w.heap.size w w1 := below_then (below_alloc (Below.refl _ _) _) (by simp) hb1
    have HBb := Aside0.mk hB
    clear hB hb1 HI
    go_wp2_with fail
    go_ret2
    exact ⟨rfl, HBb.out⟩
set_option maxHeartbeats 1000000 in
theorem clone17 (A : Option Addr) (c : Nat) (l : List Int) (w : World) (hr : Kd.C (Kd.int .u8) w A l.length l) (hc : l.length ≤ c) (hb : l.length < 140737488355328) :
    Calls Try.prog 17 #[.slice A l.length c] w fun e w' => ∃ v, e = .returned v ∧ Kd.R (Kd.int .u8) 5 w' w.heap.size (fun _ => True) v l ∧ Below w.heap.size w w' := by
  have HR := Aside0.mk hr
  have HC := Aside0.mk hc
  clear hr hc
  have qT := fun (w : World) (a : Option Addr) (n c n' c' : Nat) => Lib.run_eql_slice_nil (P := Try.prog) w 24 5 a n c n' c' Try.underlying24
  cases A with
  | none =>
    have hn : l.length = 0 := by
      rcases Nat.eq_zero_or_pos l.length with h | h
      · exact h
      · obtain ⟨ad, e, _⟩ := HR.out.2.2 h
        cases e
    obtain rfl : l = [] := List.eq_nil_of_length_eq_zero hn
    go_enter Try.func17, Try.ntmps17
    go_wp2_with fail
    go_ret
    exact ⟨_, rfl, Kd.R_nil _ _ _ _ _, Below.refl _ _⟩
  | some ad =>
    go_enter Try.func17, Try.ntmps17
    go_wp2_with (first | ((with_reducible refine gate_dst (N := 5) rfl ?_); refine Kd.R_lit (Kd.int .u8) _ 5 ?hg (N := 5) ?hd (xs := ([] : List Int)) (inner := []) (ok := fun _ => True) (okp := fun _ => True) ?hr ?hp (fun _ hk => hk) trivial (Below.refl _ _) (Nat.le_refl _) (by simp) ?_; (case hd => rfl); (case hg => rfl); (case hr => first | (go_simp; done) | (go_simp; rfl)); (case hp => exact (Reps.none _ _)); intro v1 w3 ho4 hb4 hg_ hnew_; clear hg_ hnew_; have HB := Aside0.mk hb4; have HO := Aside0.mk ho4; clear hb4 ho4) | ((with_reducible refine gate_builtin (b := .append) (xs := #[.tmp 5, .tmp 6]) rfl ?_); at_builtin; refine Kd.R_append_rows (Kd.int .u8) (w0 := w) w.heap.size rfl (.tmp 5) (.tmp 6) 24 5 (.int .u8 0) 1 rfl Try.underlying24 info5 rfl (by decide) (by omega) v1 [] l _ _ _ (fun _ => True) (fun _ => False) rfl rfl ?aO ?aR (fun _ _ h => h) (fun _ h => h.elim) ?aF ?aB ?aS ?aL ?_; (case aR => exact Kd.C_below HR.out HB.out); (case aB => exact HB.out); (case aF => exact (fun _ _ => trivial)); (case aO => exact HO.out); (case aS => exact HB.out.size); (case aL => simp; omega); intro v2 w5 ho hb5 hg hat; have HB5 := Aside0.mk hb5; have HO5 := Aside0.mk ho; clear ho hb5 hg hat))
    go_ret
    exact ⟨_, rfl, HO5.out, HB5.out⟩

set_option maxHeartbeats 1000000 in
theorem one16 (n : Int) (b : Bool) (w : World) (h : decide (1 ≤ n ∧ n ≤ 1073741824) = b) : Calls Try.prog 16 #[.int .i64 n] w fun e w' => e = .returned (.bool b) ∧ w = w' := by
  have H := Aside0.mk h
  clear h
  by_cases h1 : 1 ≤ n
  · by_cases h2 : n ≤ 1073741824
    · obtain rfl : b = true := by rw [← H.out]; simp [h1, h2]
      go_enter Try.func16, Try.ntmps16
      go_wp2
      go_ret
      exact ⟨rfl, rfl⟩
    · obtain rfl : b = false := by rw [← H.out]; simp [h2]
      go_enter Try.func16, Try.ntmps16
      go_wp2
      go_ret
      exact ⟨rfl, rfl⟩
  · obtain rfl : b = false := by rw [← H.out]; simp [h1]
    go_enter Try.func16, Try.ntmps16
    go_wp2
    go_ret
    exact ⟨rfl, rfl⟩
theorem blk_cells3 {w : World} {g t : Nat} {a b c : Value} (h : w.heap[g]? = some (.cells #[a, b, c] t (0, 0))) : w.cell? ⟨g, 0, none⟩ = some a ∧ w.cell? ⟨g, 1, none⟩ = some b ∧ w.cell? ⟨g, 2, none⟩ = some c ∧ (∀ j, w.frozen? ⟨g, j, none⟩ = false) := by
  refine ⟨?_, ?_, ?_, fun j => ?_⟩ <;> simp [World.cell?, World.frozen?, h]
def LookEnd (w : World) (r1 : Int) (r2 : List Int) (r3 r4 : Int) (e : Ending) (w' : World) : Prop := ∃ v1_ : Value, e = .returned (.tuple #[.agg #[.int .i64 r1, v1_, .int .i64 r3], .int .i64 r4]) ∧ Kd.R (Kd.int .u8) 5 w' w.heap.size (fun _ => True) v1_ r2 ∧ Below w.heap.size w w'

set_option maxHeartbeats 1000000 in
theorem look_bad1 (A : Option Addr) (c : Nat) (l : List S31) (s q : Int) (w : World) (hr : Kd.C k31 w A l.length l) (hc : l.length ≤ c) (h1 : decide (1 ≤ s ∧ s ≤ 1073741824) = false) :
    Calls Try.prog 8 #[.slice A l.length c, .int .i64 s, .int .i64 q] w (LookEnd w 10 [] 0 2) := by
  have HR := Aside0.mk hr
  have HC := Aside0.mk hc
  have hlen : l.length ≤ 9223372036854775807 := hr.2.1
  have hfl := fi_le l s
  have HI := Aside0.mk (find15 A c l s (w.alloc (.cells #[.int .i64 0, .slice none 0 0, .int .i64 0] 26)) (Kd.C_alloc hr _) hc)
  clear hr hc
  have H1 := Aside0.mk h1
  clear h1
  go_enter Try.func8, Try.ntmps8
  go_wp2_with fail
  refine HI.out.mono ?_
  rintro e w1 ⟨rfl, hb1⟩
  have BK : w1.heap[w.heap.size]? = some (.cells #[.int .i64 0, .slice none 0 0, .int .i64 0] 26 (0, 0)) := (hb1.block _ (by simp)).trans (heap_alloc_self w _)
  have hB : Below w.heap.size w w1 := below_then (below_alloc (Below.refl _ _) _) (by simp) hb1
  obtain ⟨x0, x1, x2, x3⟩ := blk_cells3 BK
  have x30 := x3 0
  have x31 := x3 1
  have x32 := x3 2
  have BKs := Aside0.mk BK
  have HBs := Aside0.mk hB
  clear BK hB hb1 HI x3
  go_wp2_with (first | (go_at_call 16; refine (one16 _ false _ H1.out).mono ?_; rintro e w' ⟨rfl, rfl⟩))
  refine bodyPost_ret (results_ct rfl _ _ w.heap.size 26 #[.int .i64 10, .slice none 0 0, .int .i64 0] (0, 0) _ rfl (by refine blk_put (cs := #[.int .i64 10, .slice none 0 0, .int .i64 0]) ?_ 2 _ rfl; refine blk_put (cs := #[.int .i64 10, .slice none 0 0, .int .i64 0]) ?_ 1 _ rfl; refine blk_put (cs := #[.int .i64 0, .slice none 0 0, .int .i64 0]) ?_ 0 _ rfl; exact BKs.out) Try.underlying26 rfl (by kernel_rfl)) rfl ?_
  exact ⟨_, rfl, Kd.R_nil _ _ _ _ _, ((HBs.out.setCell (Nat.le_refl _) _).setCell (Nat.le_refl _) _).setCell (Nat.le_refl _) _⟩

set_option maxHeartbeats 1000000 in
theorem look_bad2 (A : Option Addr) (c : Nat) (l : List S31) (s q : Int) (w : World) (hr : Kd.C k31 w A l.length l) (hc : l.length ≤ c) (h1 : decide (1 ≤ s ∧ s ≤ 1073741824) = true) (h2 : decide (1 ≤ q ∧ q ≤ 1073741824) = false) :
    Calls Try.prog 8 #[.slice A l.length c, .int .i64 s, .int .i64 q] w (LookEnd w 10 [] 0 2) := by
  have HR := Aside0.mk hr
  have HC := Aside0.mk hc
  have hlen : l.length ≤ 9223372036854775807 := hr.2.1
  have hfl := fi_le l s
  have HI := Aside0.mk (find15 A c l s (w.alloc (.cells #[.int .i64 0, .slice none 0 0, .int .i64 0] 26)) (Kd.C_alloc hr _) hc)
  clear hr hc
  have H1 := Aside0.mk h1
  clear h1
  have H2 := Aside0.mk h2
  clear h2

  go_enter Try.func8, Try.ntmps8
  go_wp2_with fail
  refine HI.out.mono ?_
  rintro e w1 ⟨rfl, hb1⟩
  have BK : w1.heap[w.heap.size]? = some (.cells #[.int .i64 0, .slice none 0 0, .int .i64 0] 26 (0, 0)) := (hb1.block _ (by simp)).trans (heap_alloc_self w _)
  have hB : Below w.heap.size w w1 := below_then (below_alloc (Below.refl _ _) _) (by simp) hb1
  obtain ⟨x0, x1, x2, x3⟩ := blk_cells3 BK
  have x30 := x3 0
  have x31 := x3 1
  have x32 := x3 2
  have BKs := Aside0.mk BK
  have HBs := Aside0.mk hB
  clear BK hB hb1 HI x3
  go_wp2_with (first | (go_at_call 16; (first | (have tok := H1; refine (one16 s true _ H1.out).mono ?_; rintro e w' ⟨rfl, rfl⟩; clear H1) | (refine (one16 q false _ H2.out).mono ?_; rintro e w' ⟨rfl, rfl⟩))))
  refine bodyPost_ret (results_ct rfl _ _ w.heap.size 26 #[.int .i64 10, .slice none 0 0, .int .i64 0] (0, 0) _ rfl (by refine blk_put (cs := #[.int .i64 10, .slice none 0 0, .int .i64 0]) ?_ 2 _ rfl; refine blk_put (cs := #[.int .i64 10, .slice none 0 0, .int .i64 0]) ?_ 1 _ rfl; refine blk_put (cs := #[.int .i64 0, .slice none 0 0, .int .i64 0]) ?_ 0 _ rfl; exact BKs.out) Try.underlying26 rfl (by kernel_rfl)) rfl ?_
  exact ⟨_, rfl, Kd.R_nil _ _ _ _ _, ((HBs.out.setCell (Nat.le_refl _) _).setCell (Nat.le_refl _) _).setCell (Nat.le_refl _) _⟩

set_option maxHeartbeats 1000000 in
theorem look_full (A : Option Addr) (c : Nat) (l : List S31) (s q : Int) (w : World) (hr : Kd.C k31 w A l.length l) (hc : l.length ≤ c) (h1 : decide (1 ≤ s ∧ s ≤ 1073741824) = true)(h2 : decide (1 ≤ q ∧ q ≤ 1073741824) = true) (ht : there l s = false) (h8 : 8 ≤ l.length) :
    Calls Try.prog 8 #[.slice A l.length c, .int .i64 s, .int .i64 q] w (LookEnd w 9 [] 0 2) := by
  have HR := Aside0.mk hr
  have HC := Aside0.mk hc
  have hlen : l.length ≤ 9223372036854775807 := hr.2.1
  have hfl := fi_le l s
  have HI := Aside0.mk (find15 A c l s (w.alloc (.cells #[.int .i64 0, .slice none 0 0, .int .i64 0] 26)) (Kd.C_alloc hr _) hc)
  clear hr hc
  have H1 := Aside0.mk h1
  clear h1
  have H2 := Aside0.mk h2
  clear h2
  have HT := Aside0.mk ht
  clear ht
  rw [HT.out] at HI
  have h80 : decide (8 ≤ (l.length : Int)) = true := decide_eq_true (by omega)
  have h81 : decide (8 ≤ l.length) = true := decide_eq_true h8
  clear h8
  go_enter Try.func8, Try.ntmps8
  go_wp2_with fail
  refine HI.out.mono ?_
  rintro e w1 ⟨rfl, hb1⟩
  have BK : w1.heap[w.heap.size]? = some (.cells #[.int .i64 0, .slice none 0 0, .int .i64 0] 26 (0, 0)) := (hb1.block _ (by simp)).trans (heap_alloc_self w _)
  have hB : Below w.heap.size w w1 := below_then (below_alloc (Below.refl _ _) _) (by simp) hb1
  obtain ⟨x0, x1, x2, x3⟩ := blk_cells3 BK
  have x30 := x3 0
  have x31 := x3 1
  have x32 := x3 2
  have BKs := Aside0.mk BK
  have HBs := Aside0.mk hB
  clear BK hB hb1 HI x3
  go_wp2_with (first | (go_at_call 16; (first | (have tok := H1; refine (one16 s true _ H1.out).mono ?_; rintro e w' ⟨rfl, rfl⟩; clear H1) | (refine (one16 q true _ H2.out).mono ?_; rintro e w' ⟨rfl, rfl⟩))))
  refine bodyPost_ret (results_ct rfl _ _ w.heap.size 26 #[.int .i64 9, .slice none 0 0, .int .i64 0] (0, 0) _ rfl (by refine blk_put (cs := #[.int .i64 9, .slice none 0 0, .int .i64 0]) ?_ 2 _ rfl; refine blk_put (cs := #[.int .i64 9, .slice none 0 0, .int .i64 0]) ?_ 1 _ rfl; refine blk_put (cs := #[.int .i64 0, .slice none 0 0, .int .i64 0]) ?_ 0 _ rfl; exact BKs.out) Try.underlying26 rfl (by kernel_rfl)) rfl ?_
  exact ⟨_, rfl, Kd.R_nil _ _ _ _ _, ((HBs.out.setCell (Nat.le_refl _) _).setCell (Nat.le_refl _) _).setCell (Nat.le_refl _) _⟩

set_option maxHeartbeats 1000000 in
theorem look_new1 (A : Option Addr) (c : Nat) (l : List S31) (s q : Int) (w : World) (hr : Kd.C k31 w A l.length l) (hc : l.length ≤ c) (h1 : decide (1 ≤ s ∧ s ≤ 1073741824) = true)(h2 : decide (1 ≤ q ∧ q ≤ 1073741824) = true) (ht : there l s = false) (h8 : l.length < 8) :
    Calls Try.prog 8 #[.slice A l.length c, .int .i64 s, .int .i64 q] w (LookEnd w 0 [] 0 0) := by
  have HR := Aside0.mk hr
  have HC := Aside0.mk hc
  have hlen : l.length ≤ 9223372036854775807 := hr.2.1
  have hfl := fi_le l s
  have HI := Aside0.mk (find15 A c l s (w.alloc (.cells #[.int .i64 0, .slice none 0 0, .int .i64 0] 26)) (Kd.C_alloc hr _) hc)
  clear hr hc
  have H1 := Aside0.mk h1
  clear h1
  have H2 := Aside0.mk h2
  clear h2
  have HT := Aside0.mk ht
  clear ht
  rw [HT.out] at HI
  have h80 : decide (8 ≤ (l.length : Int)) = false := decide_eq_false (by omega)
  have h81 : decide (8 ≤ l.length) = false := decide_eq_false (by omega)
  clear h8
  go_enter Try.func8, Try.ntmps8
  go_wp2_with fail
  refine HI.out.mono ?_
  rintro e w1 ⟨rfl, hb1⟩
  have BK : w1.heap[w.heap.size]? = some (.cells #[.int .i64 0, .slice none 0 0, .int .i64 0] 26 (0, 0)) := (hb1.block _ (by simp)).trans (heap_alloc_self w _)
  have hB : Below w.heap.size w w1 := below_then (below_alloc (Below.refl _ _) _) (by simp) hb1
  obtain ⟨x0, x1, x2, x3⟩ := blk_cells3 BK
  have x30 := x3 0
  have x31 := x3 1
  have x32 := x3 2
  have BKs := Aside0.mk BK
  have HBs := Aside0.mk hB
  clear BK hB hb1 HI x3
  go_wp2_with (first | (go_at_call 16; (first | (have tok := H1; refine (one16 s true _ H1.out).mono ?_; rintro e w' ⟨rfl, rfl⟩; clear H1) | (refine (one16 q true _ H2.out).mono ?_; rintro e w' ⟨rfl, rfl⟩))))
  refine bodyPost_ret (results_ct rfl _ _ w.heap.size 26 #[.int .i64 0, .slice none 0 0, .int .i64 0] (0, 0) _ rfl (by refine blk_put (cs := #[.int .i64 0, .slice none 0 0, .int .i64 0]) ?_ 2 _ rfl; refine blk_put (cs := #[.int .i64 0, .slice none 0 0, .int .i64 0]) ?_ 1 _ rfl; refine blk_put (cs := #[.int .i64 0, .slice none 0 0, .int .i64 0]) ?_ 0 _ rfl; exact BKs.out) Try.underlying26 rfl (by kernel_rfl)) rfl ?_
  exact ⟨_, rfl, Kd.R_nil _ _ _ _ _, ((HBs.out.setCell (Nat.le_refl _) _).setCell (Nat.le_refl _) _).setCell (Nat.le_refl _) _⟩

set_option maxHeartbeats 1000000 in
theorem look_new2 (A : Option Addr) (c : Nat) (l : List S31) (s q : Int) (w : World) (hr : Kd.C k31 w A l.length l) (hc : l.length ≤ c) (h1 : decide (1 ≤ s ∧ s ≤ 1073741824) = true)(h2 : decide (1 ≤ q ∧ q ≤ 1073741824) = true) (ht : there l s = true) (hq : (rd_T31 l (fi l s : Int)).f1 < q) :
    Calls Try.prog 8 #[.slice A l.length c, .int .i64 s, .int .i64 q] w (LookEnd w 0 [] 0 0) := by
  have HR := Aside0.mk hr
  have HC := Aside0.mk hc
  have hlen : l.length ≤ 9223372036854775807 := hr.2.1
  have hfl := fi_le l s
  have HI := Aside0.mk (find15 A c l s (w.alloc (.cells #[.int .i64 0, .slice none 0 0, .int .i64 0] 26)) (Kd.C_alloc hr _) hc)
  clear hr hc
  have H1 := Aside0.mk h1
  clear h1
  have H2 := Aside0.mk h2
  clear h2
  have HT := Aside0.mk ht
  have hlt : fi l s < l.length := by have := ht; simp [there] at this; exact this.1
  clear ht
  rw [HT.out] at HI
  have hq0 : decide ((rd_T31 l (fi l s : Int)).f1 < q) = true := decide_eq_true hq

  go_enter Try.func8, Try.ntmps8
  go_wp2_with fail
  refine HI.out.mono ?_
  rintro e w1 ⟨rfl, hb1⟩
  have BK : w1.heap[w.heap.size]? = some (.cells #[.int .i64 0, .slice none 0 0, .int .i64 0] 26 (0, 0)) := (hb1.block _ (by simp)).trans (heap_alloc_self w _)
  have hB : Below w.heap.size w w1 := below_then (below_alloc (Below.refl _ _) _) (by simp) hb1
  obtain ⟨x0, x1, x2, x3⟩ := blk_cells3 BK
  have x30 := x3 0
  have x31 := x3 1
  have x32 := x3 2
  have BKs := Aside0.mk BK
  have HBs := Aside0.mk hB
  clear BK hB hb1 HI x3
  obtain ⟨ad, A3, c3, e, h0, h1, h2, h3, h4, l3, g3⟩ := at_T31 (Kd.C_below HR.out HBs.out) (fi l s : Int) (by omega) (by omega)
  cases e
  simp only [Int.toNat_natCast] at h0 h1 h2 h3 h4
  clear l3 g3 h2 h3 h4 h0
  go_wp2_with (first | (go_at_call 16; (first | (have tok := H1; refine (one16 s true _ H1.out).mono ?_; rintro e w' ⟨rfl, rfl⟩; clear H1) | (refine (one16 q true _ H2.out).mono ?_; rintro e w' ⟨rfl, rfl⟩))))
  refine bodyPost_ret (results_ct rfl _ _ w.heap.size 26 #[.int .i64 0, .slice none 0 0, .int .i64 0] (0, 0) _ rfl (by refine blk_put (cs := #[.int .i64 0, .slice none 0 0, .int .i64 0]) ?_ 2 _ rfl; refine blk_put (cs := #[.int .i64 0, .slice none 0 0, .int .i64 0]) ?_ 1 _ rfl; refine blk_put (cs := #[.int .i64 0, .slice none 0 0, .int .i64 0]) ?_ 0 _ rfl; exact BKs.out) Try.underlying26 rfl (by kernel_rfl)) rfl ?_
  exact ⟨_, rfl, Kd.R_nil _ _ _ _ _, ((HBs.out.setCell (Nat.le_refl _) _).setCell (Nat.le_refl _) _).setCell (Nat.le_refl _) _⟩

set_option maxHeartbeats 1000000 in
theorem look_old (A : Option Addr) (c : Nat) (l : List S31) (s q : Int) (w : World) (hr : Kd.C k31 w A l.length l) (hc : l.length ≤ c) (h1 : decide (1 ≤ s ∧ s ≤ 1073741824) = true)(h2 : decide (1 ≤ q ∧ q ≤ 1073741824) = true) (ht : there l s = true) (hq : q < (rd_T31 l (fi l s : Int)).f1) :
    Calls Try.prog 8 #[.slice A l.length c, .int .i64 s, .int .i64 q] w (LookEnd w 8 [] 0 2) := by
  have HR := Aside0.mk hr
  have HC := Aside0.mk hc
  have hlen : l.length ≤ 9223372036854775807 := hr.2.1
  have hfl := fi_le l s
  have HI := Aside0.mk (find15 A c l s (w.alloc (.cells #[.int .i64 0, .slice none 0 0, .int .i64 0] 26)) (Kd.C_alloc hr _) hc)
  clear hr hc
  have H1 := Aside0.mk h1
  clear h1
  have H2 := Aside0.mk h2
  clear h2
  have HT := Aside0.mk ht
  have hlt : fi l s < l.length := by have := ht; simp [there] at this; exact this.1
  clear ht
  rw [HT.out] at HI
  have hq0 : decide ((rd_T31 l (fi l s : Int)).f1 < q) = false := decide_eq_false (by omega)
  have hq1 : decide (q < (rd_T31 l (fi l s : Int)).f1) = true := decide_eq_true hq

  go_enter Try.func8, Try.ntmps8
  go_wp2_with fail
  refine HI.out.mono ?_
  rintro e w1 ⟨rfl, hb1⟩
  have BK : w1.heap[w.heap.size]? = some (.cells #[.int .i64 0, .slice none 0 0, .int .i64 0] 26 (0, 0)) := (hb1.block _ (by simp)).trans (heap_alloc_self w _)
  have hB : Below w.heap.size w w1 := below_then (below_alloc (Below.refl _ _) _) (by simp) hb1
  obtain ⟨x0, x1, x2, x3⟩ := blk_cells3 BK
  have x30 := x3 0
  have x31 := x3 1
  have x32 := x3 2
  have BKs := Aside0.mk BK
  have HBs := Aside0.mk hB
  clear BK hB hb1 HI x3
  obtain ⟨ad, A3, c3, e, h0, h1, h2, h3, h4, l3, g3⟩ := at_T31 (Kd.C_below HR.out HBs.out) (fi l s : Int) (by omega) (by omega)
  cases e
  simp only [Int.toNat_natCast] at h0 h1 h2 h3 h4
  clear l3 g3 h2 h3 h4 h0
  go_wp2_with (first | (go_at_call 16; (first | (have tok := H1; refine (one16 s true _ H1.out).mono ?_; rintro e w' ⟨rfl, rfl⟩; clear H1) | (refine (one16 q true _ H2.out).mono ?_; rintro e w' ⟨rfl, rfl⟩))))
  refine bodyPost_ret (results_ct rfl _ _ w.heap.size 26 #[.int .i64 8, .slice none 0 0, .int .i64 0] (0, 0) _ rfl (by refine blk_put (cs := #[.int .i64 8, .slice none 0 0, .int .i64 0]) ?_ 2 _ rfl; refine blk_put (cs := #[.int .i64 8, .slice none 0 0, .int .i64 0]) ?_ 1 _ rfl; refine blk_put (cs := #[.int .i64 0, .slice none 0 0, .int .i64 0]) ?_ 0 _ rfl; exact BKs.out) Try.underlying26 rfl (by kernel_rfl)) rfl ?_
  exact ⟨_, rfl, Kd.R_nil _ _ _ _ _, ((HBs.out.setCell (Nat.le_refl _) _).setCell (Nat.le_refl _) _).setCell (Nat.le_refl _) _⟩

set_option maxHeartbeats 1000000 in
theorem look_same (A : Option Addr) (c : Nat) (l : List S31) (s q : Int) (w : World) (hr : Kd.C k31 w A l.length l) (hc : l.length ≤ c) (h1 : decide (1 ≤ s ∧ s ≤ 1073741824) = true)(h2 : decide (1 ≤ q ∧ q ≤ 1073741824) = true) (ht : there l s = true) (hq : (rd_T31 l (fi l s : Int)).f1 = q) (hv : (rd_T31 l (fi l s : Int)).f2.f1.length < 140737488355328) :
    Calls Try.prog 8 #[.slice A l.length c, .int .i64 s, .int .i64 q] w (LookEnd w (rd_T31 l (fi l s : Int)).f2.f0 (rd_T31 l (fi l s : Int)).f2.f1 (rd_T31 l (fi l s : Int)).f2.f2 1) := by
  have HR := Aside0.mk hr
  have HC := Aside0.mk hc
  have hlen : l.length ≤ 9223372036854775807 := hr.2.1
  have hfl := fi_le l s
  have HI := Aside0.mk (find15 A c l s (w.alloc (.cells #[.int .i64 0, .slice none 0 0, .int .i64 0] 26)) (Kd.C_alloc hr _) hc)
  clear hr hc
  have H1 := Aside0.mk h1
  clear h1
  have H2 := Aside0.mk h2
  clear h2
  have HT := Aside0.mk ht
  have hlt : fi l s < l.length := by have := ht; simp [there] at this; exact this.1
  clear ht
  rw [HT.out] at HI
  have hq0 : decide ((rd_T31 l (fi l s : Int)).f1 < q) = false := decide_eq_false (by omega)
  have hq1 : decide (q < (rd_T31 l (fi l s : Int)).f1) = false := decide_eq_false (by omega)
  clear hq
  generalize hx : rd_T31 l (fi l s : Int) = x at *
  have HX := Aside0.mk hx
  clear hx
  go_enter Try.func8, Try.ntmps8
  go_wp2_with fail
  refine HI.out.mono ?_
  rintro e w1 ⟨rfl, hb1⟩
  have BK : w1.heap[w.heap.size]? = some (.cells #[.int .i64 0, .slice none 0 0, .int .i64 0] 26 (0, 0)) := (hb1.block _ (by simp)).trans (heap_alloc_self w _)
  have hB : Below w.heap.size w w1 := below_then (below_alloc (Below.refl _ _) _) (by simp) hb1
  have hg : w.heap.size < w1.heap.size := by have := hb1.size; simp at this; omega
  have BKs := Aside0.mk BK
  have HBs := Aside0.mk hB
  clear BK hB hb1 HI
  obtain ⟨ad, A3, c3, e, h0, h1, h2, h3, h4, l3, g3⟩ := at_T31 (Kd.C_below HR.out HBs.out) (fi l s : Int) (by omega) (by omega)
  rw [HX.out] at h0 h1 h2 h3 h4 l3 g3
  cases e
  simp only [Int.toNat_natCast] at h0 h1 h2 h3 h4
  have L3 := Aside0.mk l3
  have G3 := Aside0.mk g3
  clear l3 g3
  go_wp2_with (first | (go_at_call 16; (first | (have tok := H1; refine (one16 s true _ H1.out).mono ?_; rintro e w' ⟨rfl, rfl⟩; clear H1) | (refine (one16 q true _ H2.out).mono ?_; rintro e w' ⟨rfl, rfl⟩))))
  refine (clone17 A3 c3 x.f2.f1 _ (Kd.C_alloc G3.out _) L3.out hv).mono ?_
  rintro e w2 ⟨v, rfl, ho, hb2⟩
  obtain ⟨Av, cv, ev⟩ := Kd.R_slice ho
  subst ev
  have B2 : w2.heap[w1.heap.size]? = some (.cells #[.int .i64 x.f2.f0, .slice A3 x.f2.f1.length c3, .int .i64 x.f2.f2] 26 (0, 0)) := (hb2.block _ (by simp)).trans (heap_alloc_self w1 _)
  have B1 : w2.heap[w.heap.size]? = some (.cells #[.int .i64 0, .slice none 0 0, .int .i64 0] 26 (0, 0)) := (hb2.block _ (by simp; omega)).trans ((Below.heap_alloc w1 _ _ hg).trans BKs.out)
  obtain ⟨y0, y1, y2, y3⟩ := blk_cells3 B2
  obtain ⟨x0, x1, x2, x3⟩ := blk_cells3 B1
  have x30 := x3 0
  have x31 := x3 1
  have x32 := x3 2
  have y31 := y3 1
  have hne : w1.heap.size ≠ w.heap.size := by omega
  have hne2 : w.heap.size ≠ w1.heap.size := by omega
  have B1s := Aside0.mk B1
  have B2s := Aside0.mk B2
  have HO := Aside0.mk (Kd.R_types (Kd.R_types ho B2 (by decide)) B1 (by decide))
  have HB2 : Below w.heap.size w w2 := below_then (below_alloc HBs.out _) (by simp; omega) hb2
  have HB2s := Aside0.mk HB2
  have hw2 : w1.heap.size < w2.heap.size := by have := hb2.size; simp at this; omega
  have HLs := Aside0.mk (show w.heap.size ≤ (w1.alloc (.cells #[.int .i64 x.f2.f0, .slice A3 x.f2.f1.length c3, .int .i64 x.f2.f2] 26)).heap.size from by simp; omega)
  clear B1 B2 ho hb2 HB2 x3 y3 h0 h1 h2 h3 h4
  go_wp2_with fail
  refine bodyPost_ret (results_ct rfl _ _ w.heap.size 26 #[.int .i64 x.f2.f0, .slice Av x.f2.f1.length cv, .int .i64 x.f2.f2] (0, 0) _ rfl (by refine blk_put (cs := #[.int .i64 x.f2.f0, .slice Av x.f2.f1.length cv, .int .i64 0]) ?_ 2 _ rfl; refine blk_put (cs := #[.int .i64 x.f2.f0, .slice none 0 0, .int .i64 0]) ?_ 1 _ rfl; refine blk_put (cs := #[.int .i64 0, .slice none 0 0, .int .i64 0]) ?_ 0 _ rfl; refine blk_far ?_ hne2 _; exact B1s.out) Try.underlying26 rfl (by kernel_rfl)) rfl ?_
  exact ⟨_, rfl, Kd.R_lower (Kd.R_mono (Kd.R_far (p := ⟨w.heap.size, 2, none⟩) (Kd.R_far (p := ⟨w.heap.size, 1, none⟩) (Kd.R_far (p := ⟨w.heap.size, 0, none⟩) (Kd.R_far (p := ⟨w1.heap.size, 1, none⟩) HO.out (fun _ hk => hk.1.2) _) (fun _ hk => hk.2) _) (fun _ hk => hk.2) _) (fun _ hk => hk.2) _) (fun _ _ => trivial)) HLs.out, (((HB2s.out.setCell (Nat.le_of_lt hg) _).setCell (Nat.le_refl _) _).setCell (Nat.le_refl _) _).setCell (Nat.le_refl _) _⟩
end Go.Proofs.Ytjpgnipjgonplaa.Ss
