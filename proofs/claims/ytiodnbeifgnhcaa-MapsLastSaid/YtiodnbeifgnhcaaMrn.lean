/- The document's Put, walked to its end. -/
import Derived.Test.YtiodnbeifgnhcaaMrp
namespace Go.Proofs.Ytiodnbeifgnhcaa.Ms
open Go.RowKit Go.Proofs.YtiodnbeifgnhcaaW.PrintWords Go.Proofs.YtiodnbeifgnhcaaW.PrintLast Go.Proofs.YtiodnbeifgnhcaaW.PrintMore
attribute [local go_sem] max2_int min2_int max_two min_two max_three min_three max_four min_four
set_option linter.unusedVariables false
set_option linter.unusedSimpArgs false

theorem R_row {α : Type} {d : Kd α} {e : Nat} {w : World} {base : Nat} {v : Value} {l : List α} (h : Kd.R d e w base (fun _ => True) v l) (hl : l ≠ []) : ∃ g c cur, v = .slice (some ⟨g, 0, none⟩) l.length c ∧ base ≤ g ∧ w.heap[g]? = some (.cells cur e (0, 0)) ∧ l.length ≤ c ∧ c ≤ maxLen ∧ cur.size = c * d.sz ∧ Reps (d.M w base (fun k => k ≠ g)) d.sz l (cur.toList.take (l.length * d.sz)) := by
  obtain ⟨_, inner, ho, hr⟩ := h
  rcases ho.2 with ⟨h', h0⟩ | ⟨g, cap, cur, rfl, hb, hg, h1, h2, h3, h4⟩
  · exact absurd (List.eq_nil_of_length_eq_zero h0) hl
  · refine ⟨g, cap, cur, rfl, hb, hg, h1, h2, h3, ?_⟩
    rw [h4]
    exact hr.imp_ (fun _ _ hp => d.M_mono (fun k hk hkg => hk.2 (by simp [Value.ownBlock, hkg])) hp)
/-- A row in block g that may be written: what its elements lead to lies from base on, and not in g. -/
def RowAt (g base : Nat) (l : List S32) (w : World) : Prop := ∃ cur, w.heap[g]? = some (.cells cur 32 (0, 0)) ∧ l.length * 2 ≤ cur.size ∧ Reps (k32.M w base (fun k => k ≠ g)) 2 l (cur.toList.take (l.length * 2))
theorem RowAt.get {g base i : Nat} {l : List S32} {w : World} (h : RowAt g base l w) (hi : i < l.length) : ∃ A0 c0 A1 c1, w.cell? ⟨g, i * 2, none⟩ = some (.slice A0 l[i].f0.length c0) ∧ w.cell? ⟨g, i * 2 + 1, none⟩ = some (.slice A1 l[i].f1.length c1) ∧ (∀ j, w.frozen? ⟨g, j, none⟩ = false) ∧ k32.M w base (fun k => k ≠ g) l[i] [.slice A0 l[i].f0.length c0, .slice A1 l[i].f1.length c1] := by
  obtain ⟨cur, hg, hs, hr⟩ := h
  have hM := hr.2 i l[i] (List.getElem?_eq_getElem hi)
  obtain ⟨u0, u1, hcs, hR0, hR1⟩ := k32_openM hM
  have hcell : ∀ j u, j < 2 → [u0, u1][j]? = some u → cur[i * 2 + j]? = some u := fun j u hj hu => by
    rw [← hcs, List.getElem?_take, if_pos hj, List.getElem?_drop, List.getElem?_take, if_pos (by omega), Array.getElem?_toList] at hu
    exact hu
  obtain ⟨A0, c0, rfl⟩ := Kd.R_slice hR0
  obtain ⟨A1, c1, rfl⟩ := Kd.R_slice hR1
  exact ⟨A0, c0, A1, c1, (cell_of_heap hg).1.trans (hcell 0 _ (by decide) rfl), (cell_of_heap hg).1.trans (hcell 1 _ (by decide) rfl), fun _ => (cell_of_heap hg).2, by rw [← hcs]; exact hM⟩
theorem RowAt.keep {g base : Nat} {l : List S32} {w w' : World} (h : RowAt g base l w) (hb : base ≤ g) (hk : ∀ k, base ≤ k → k < w.heap.size → w'.heap[k]? = w.heap[k]?) : RowAt g base l w' := by
  obtain ⟨cur, hg, hs, hr⟩ := h
  exact ⟨cur, (hk g hb (blk_lt hg)).trans hg, hs, hr.imp_ (fun _ _ hy => M_keep3 hy (fun k a b _ => hk k a b))⟩
theorem RowAt.below {g base : Nat} {l : List S32} {w w' : World} (h : RowAt g base l w) (hb : base ≤ g) (hk : Below w.heap.size w w') : RowAt g base l w' := h.keep hb (fun k _ b => hk.block k b)
theorem chunk2 {cs : List Value} (h : cs.length = 2) (a b : Value) : (cs.set 0 a).set 1 b = [a, b] := by
  match cs, h with
  | [_, _], _ => rfl
theorem RowAt.set {g base i : Nat} {l : List S32} {w : World} {x : S32} {a0 a1 : Value} (h : RowAt g base l w) (hi : i < l.length) (hx : k32.M w base (fun k => k ≠ g) x [a0, a1]) : RowAt g base (l.set i x) ((w.setCell ⟨g, i * 2, none⟩ a0).setCell ⟨g, i * 2 + 1, none⟩ a1) := by
  obtain ⟨cur, hg, hs, hr⟩ := h
  have hk : ∀ k, k ≠ g → ((w.setCell ⟨g, i * 2, none⟩ a0).setCell ⟨g, i * 2 + 1, none⟩ a1).heap[k]? = w.heap[k]? := fun k e => by rw [keep_put _ _ _ _ _ e, keep_put _ _ _ _ _ e]
  refine ⟨_, heap_set_same _ (heap_set_same _ hg), by rw [List.length_set]; simpa only [Array.size_setIfInBounds] using hs, ?_⟩
  rw [List.length_set, take_setIf, take_setIf]
  generalize hin : cur.toList.take (l.length * 2) = inner at hr
  refine ⟨by simp [hr.1], fun j y hy => ?_⟩
  show k32.M _ base _ y (chunk 2 j _)
  by_cases hj : i = j
  · subst hj
    rw [List.getElem?_set_self hi] at hy
    obtain rfl := Option.some.inj hy
    rw [chunk_set_eq (by decide), show i * 2 = i * 2 + 0 from rfl, chunk_set_eq (by decide), chunk2]
    · exact M_keep3 hx (fun k _ _ e => hk k e)
    · have := hr.1
      simp [chunk]
      omega
  · rw [List.getElem?_set_ne hj] at hy
    rw [chunk_set_ne (by omega), chunk_set_ne (by omega)]
    exact M_keep3 (hr.2 j y hy) (fun k _ _ e => hk k e)
theorem RowAt.Fr {g base : Nat} {l : List S32} {w : World} (h : RowAt g base l w) (hb : base ≤ g) (hm : l.length ≤ maxLen) : Fr k32 32 w base (some ⟨g, 0, none⟩) l := by
  obtain ⟨cur, hg, hs, hr⟩ := h
  exact .inr ⟨g, cur, rfl, hb, hg, hs, hm, hr⟩
theorem shift_get (l : List S32) (y : S32) (i : Nat) (h0 : 0 < i) (hi : i ≤ l.length) : (l.take i ++ y :: l.drop i)[i - 1]'(by simp; omega) = rd_T32 l ((i - 1 : Nat) : Int) := by
  rw [List.getElem_append_left (by simp; omega), List.getElem_take, rd_get l (i - 1) (by omega)]
theorem shift_set (l : List S32) (y : S32) (i : Nat) (h0 : 0 < i) (hi : i ≤ l.length) : (l.take i ++ y :: l.drop i).set i (rd_T32 l ((i - 1 : Nat) : Int)) = l.take (i - 1) ++ rd_T32 l ((i - 1 : Nat) : Int) :: l.drop (i - 1) := by
  obtain ⟨m, rfl⟩ : ∃ m, i = m + 1 := ⟨i - 1, by omega⟩
  have hlt : m < l.length := by omega
  rw [Nat.add_sub_cancel, rd_get l m hlt, List.set_append_right _ _ (by simp; omega), List.length_take, Nat.min_eq_left hi, Nat.sub_self, List.set_cons_zero, List.take_add_one, List.getElem?_eq_getElem hlt, List.drop_eq_getElem_cons hlt, List.append_assoc]
  rfl
theorem shift_fin (l : List S32) (y x : S32) (i : Nat) (hi : i ≤ l.length) : (l.take i ++ y :: l.drop i).set i x = l.take i ++ x :: l.drop i := by
  rw [List.set_append_right _ _ (by simp; omega), List.length_take, Nat.min_eq_left hi, Nat.sub_self, List.set_cons_zero]
theorem lessB_eq (a b : List Int) : Op.bytesLess (strOfNums a).toList (strOfNums b).toList = lessB a b := by
  rw [Lib.strOfNums_toList, Lib.strOfNums_toList, lessB]
  generalize Lib.bytesOf a = x
  generalize Lib.bytesOf b = y
  induction x generalizing y with
  | nil => cases y <;> simp [Op.bytesLess, Lib.compareBytes]
  | cons a x ih =>
    cases y with
    | nil => simp [Op.bytesLess, Lib.compareBytes]
    | cons b y =>
      rw [Op.bytesLess, Lib.compareBytes, ih]
      by_cases h1 : a < b
      · simp [h1]
      · by_cases h2 : b < a
        · have h3 : ¬ a = b := fun e => by rw [e] at h2; exact absurd h2 (UInt8.lt_irrefl b)
          simp [h1, h2, h3]
        · have h3 : a = b := by
            apply UInt8.toNat_inj.1
            rw [UInt8.lt_iff_toNat_lt] at h1 h2
            omega
          simp [h3]
theorem tw_all {α : Type} (p : α → Bool) (l : List α) : ∀ x ∈ l.takeWhile p, p x = true := by
  induction l with
  | nil => intro x hx; cases hx
  | cons a l ih =>
    intro x hx
    rw [List.takeWhile_cons] at hx
    split at hx
    · rename_i h
      rcases List.mem_cons.1 hx with rfl | hx
      · exact h
      · exact ih x hx
    · cases hx
theorem no_key {l : List S32} {k : List Int} (h : (findR l k).2 = false) : ∀ j, j < l.length → sameB (rd_T32 l (j : Int)).f0 k = false := by
  intro j hj
  unfold findR at h
  split at h
  · cases h
  · rename_i hge
    have he : (l.takeWhile fun x => !sameB x.f0 k) = l := (List.takeWhile_prefix _).eq_of_length (Nat.le_antisymm (List.takeWhile_prefix (p := fun (x : S32) => !sameB x.f0 k)).length_le (by unfold eqI at hge; omega))
    have hm : l[j] ∈ l.takeWhile fun x => !sameB x.f0 k := by rw [he]; exact List.getElem_mem hj
    have := tw_all _ _ _ hm
    rw [rd_get l j hj]
    simpa using this
set_option maxHeartbeats 1000000 in
set_option maxRecDepth 100000 in
theorem rput_new (A B D : Option Addr) (c d f : Nat) (l : List S32) (k v : List Int) (w : World) (hr : Kd.C k32 w A l.length l) (hc : l.length ≤ c) (hn : l.length < 1000000) (hv : ∀ x ∈ l, x.f0.length < 140737488355328 ∧ x.f1.length < 140737488355328) (hk : Kd.C (Kd.int .u8) w B k.length k) (hd : k.length ≤ d) (hvr : Kd.C (Kd.int .u8) w D v.length v) (hvf : v.length ≤ f) (h8 : k.length ≤ 8) (h16 : v.length ≤ 16) (ht : (findR l k).2 = false) (hf : l.length < 8) :
    Calls Try.prog 11 #[.slice A l.length c, .slice B k.length d, .slice D v.length f] w (PutEnd w (l.take (findR l k).1 ++ ⟨k, v⟩ :: l.drop (findR l k).1) ⟨0, [], (l.length : Int) + 1⟩) := by
  obtain ⟨W0, hW0⟩ : ∃ W0, W0 = w.alloc (.cells #[.int .i64 0, .slice none 0 0, .int .i64 0] 26) := ⟨_, rfl⟩
  have hb0 : Below w.heap.size w W0 := by rw [hW0]; exact below_alloc (Below.refl _ _) _
  have hk0 : W0.heap[w.heap.size]? = some (.cells #[.int .i64 0, .slice none 0 0, .int .i64 0] 26 (0, 0)) := by rw [hW0]; exact heap_alloc_self w _
  have hs0 : W0.heap.size = w.heap.size + 1 := by rw [hW0]; simp
  have HI := Aside0.mk (pairs20 A c l W0 (Kd.C_below hr hb0) hc hn hv)
  have HB0 := Aside0.mk hb0
  have HK0 := Aside0.mk hk0
  have HS0 := Aside0.mk hs0
  have HR := Aside0.mk hr
  have HRc := Aside0.mk hc
  have HK := Aside0.mk hk
  have HD := Aside0.mk hd
  have HN := Aside0.mk hn
  have c1 : decide ((8 : Int) < (k.length : Int)) = false := decide_eq_false (by omega)
  have c2 : decide ((16 : Int) < (v.length : Int)) = false := decide_eq_false (by omega)
  have c3 : decide ((8 : Int) ≤ (l.length : Int)) = false := decide_eq_false (by omega)
  have HV := Aside0.mk hvr
  have HVF := Aside0.mk hvf
  clear hvr hvf
  have HT := Aside0.mk ht
  have HF8 := Aside0.mk hf
  clear hr hc hv hb0 hk0 hk hd hs0 hn
  go_enter Try.func11, Try.ntmps11
  go_wp2_with fail
  rw [← hW0]
  refine HI.out.mono ?_
  rintro e w1 ⟨A', c', rfl, hc', hS, hb1⟩
  clear HI
  have HS1 := Aside0.mk hS
  have HF1 := Aside0.mk (S_Fr hS)
  have HC1 := Aside0.mk hc'
  have HA1 := Aside0.mk (S_cap hS).2
  have HB1 := Aside0.mk hb1
  have HI := Aside0.mk (key22 A B c d l k w1 (Kd.C_below HR.out (below_then HB0.out HB0.out.size hb1)) HRc.out (Kd.C_below HK.out (below_then HB0.out HB0.out.size hb1)) HD.out)
  rw [keyR, ht, if_neg (by simp)] at HI
  clear hS hb1 hc'
  go_wp2_with fail
  refine HI.out.mono ?_
  rintro e w2 ⟨rfl, hb2⟩
  have BK : w2.heap[w.heap.size]? = some (.cells #[.int .i64 0, .slice none 0 0, .int .i64 0] 26 (0, 0)) := (hb2.block _ (by have := HB1.out.size; have := HS0.out; omega)).trans ((HB1.out.block _ (by have := HS0.out; omega)).trans HK0.out)
  have BKs := Aside0.mk BK
  have HB2 := Aside0.mk hb2
  clear BK hb2 HI
  have H8 := Aside0.mk (show _ ∧ _ from ⟨h8, h16⟩)
  clear ht hf h8 h16
  go_wp2_with (first | ((with_reducible refine gate_builtin (b := .append) (xs := #[.tmp 52, .tmp 54]) rfl ?_); at_builtin; refine Kd.R_append k32 (w0 := W0) W0.heap.size rfl (.tmp 52) (.tmp 54) 22 32 z32v 48 rfl Try.underlying22 info32 rfl (by decide) (by decide) (.slice A' l.length c') l z32 [.slice none 0 0, .slice none 0 0] (fun _ => True) (fun _ => False) rfl rfl ?aP (fun _ h => h.elim) (fun _ _ => trivial) ?aO ?aB ?aS ?aL ?_; (case aP => exact k32_mkM _ _ _ z32 (Kd.R_nil _ _ _ _ _) (Kd.R_nil _ _ _ _ _)); (case aO => exact Kd.R_below (Kd.S_R HS1.out) HB2.out); (case aB => exact below_then HB1.out HB1.out.size HB2.out); (case aS => exact Nat.le_trans HB1.out.size HB2.out.size); (case aL => have := HN.out; omega); intro v3 w3 hR3 hB3 hG3 _; have HR3 := Aside0.mk hR3; have HB3 := Aside0.mk hB3; have HG3 := Aside0.mk hG3; clear hR3 hB3 hG3))
  obtain ⟨g, c3, cur, hv3, hgb, hg3, hnc, hcm, hcs, hgr⟩ := R_row HR3.out (by simp)
  subst hv3
  have hrow : RowAt g W0.heap.size (l.take l.length ++ z32 :: l.drop l.length) w3 := by
    rw [List.take_length, List.drop_length]
    exact ⟨cur, hg3, by rw [hcs]; exact Nat.mul_le_mul_right _ hnc, hgr⟩
  have hne : w.heap.size ≠ g := by have := HS0.out; omega
  have BK3 : w3.heap[w.heap.size]? = some (.cells #[.int .i64 0, .slice none 0 0, .int .i64 0] 26 (0, 0)) := (HB3.out.block _ (by have := HS0.out; omega)).trans HK0.out
  have HROW := Aside0.mk hrow
  have HBK3 := Aside0.mk BK3
  have HBW := Aside0.mk (below_then HB0.out HB0.out.size HB3.out)
  have HGB := Aside0.mk (show _ ∧ _ ∧ _ ∧ _ from ⟨hgb, hnc, hcm, hne⟩)
  clear hgb hg3 hnc hcm hcs hgr hrow hne BK3 HR3 HG3
  rw [show (l ++ [z32]).length = l.length + 1 from by simp] at HGB ⊢
  go_loopw [11] (fun v11 w' => ∃ (i : Nat) (y : S32), v11 = .int .i64 i ∧ i ≤ l.length ∧ Aside0 (∀ j, i ≤ j → j < l.length → lessB k (rd_T32 l (j : Int)).f0 = true) ∧ Aside0 (RowAt g W0.heap.size (l.take i ++ y :: l.drop i) w') ∧ Aside0 (w'.heap[w.heap.size]? = some (.cells #[.int .i64 0, .slice none 0 0, .int .i64 0] 26 (0, 0))) ∧ Aside0 (Below w.heap.size w w')) (fun v11 _ => (intOf v11).toNat)
  case atStart => exact ⟨l.length, z32, rfl, Nat.le_refl _, ⟨fun j a b => absurd b (by omega)⟩, HROW, HBK3, HBW⟩
  case round =>
    clear HROW HBK3 HBW
    obtain ⟨i, y, rfl, hi, HL, HROW, HBK, HBW⟩ := hrel
    rcases Nat.eq_zero_or_pos i with rfl | h0
    · go_wp2_with fail
      go_region
      have HF := Aside0.mk (find_f l k 0 hi (no_key HT.out) HL.out (.inl rfl))
      have HROWd := Aside0.mk (HROW.out.below HGB.out.1 (below_drew1 (Below.refl _ _)))
      have HBKd := Aside0.mk (show wr.drew.heap[w.heap.size]? = _ from HBK.out)
      have HBWd := Aside0.mk (below_drew1 HBW.out)
      generalize wr.drew = U1 at HROWd HBKd HBWd ⊢
      go_wp2_with fail
      refine (own23 B d k U1 (Kd.C_below HK.out HBWd.out) HD.out (by have := H8.out.1; omega)).mono ?_
      rintro e w4 ⟨va, rfl, ho4, hb4⟩
      obtain ⟨Ak, ck, rfl⟩ := Kd.R_slice ho4
      have HO4 := Aside0.mk ho4
      have HB4 := Aside0.mk hb4
      have HROW4 := Aside0.mk (HROWd.out.below HGB.out.1 hb4)
      have HBW4 := Aside0.mk (below_then HBWd.out HBWd.out.size hb4)
      clear ho4 hb4
      go_wp2_with fail
      refine (own23 D f v w4 (Kd.C_below HV.out HBW4.out) HVF.out (by have := H8.out.2; omega)).mono ?_
      rintro e w5 ⟨va, rfl, ho5, hb5⟩
      obtain ⟨Av, cv, rfl⟩ := Kd.R_slice ho5
      have HROW5 := Aside0.mk (HROW4.out.below HGB.out.1 hb5)
      have HBW5 := Aside0.mk (below_then HBW4.out HBW4.out.size hb5)
      have BK5 := (hb5.block _ (Nat.lt_of_lt_of_le (blk_lt HBKd.out) HB4.out.size)).trans ((HB4.out.block _ (blk_lt HBKd.out)).trans HBKd.out)
      obtain ⟨B0, b0, B1, b1, y0, y1, yf, _⟩ := HROW5.out.get (i := 0) (by simp <;> omega)
      have yf0 := yf (0)
      have yf1 := yf (1)
      have hgl := (World.block_lt_of_cell? U1 _ (HROWd.out.get (i := 0) (by simp <;> omega)).choose_spec.choose_spec.choose_spec.choose_spec.1)
      have hM : k32.M w5 W0.heap.size (fun k => k ≠ g) ⟨k, v⟩ [.slice Ak k.length ck, .slice Av v.length cv] := by
        have h0 := HBWd.out.size
        have hs0 := HS0.out
        have h4 := HB4.out.size
        have hgb := HGB.out.1
        have hgl : g < U1.heap.size := hgl
        refine k32_mkM _ _ _ ⟨k, v⟩ (Kd.R_lower (Kd.R_mono (Kd.R_bound (R_keep3 HO4.out (fun k a b _ => hb5.block k b))) (fun k hk => ?_)) (by omega : W0.heap.size ≤ U1.heap.size)) (Kd.R_lower (Kd.R_mono (Kd.R_bound ho5) (fun k hk => ?_)) (by omega : W0.heap.size ≤ w4.heap.size))
        · have := hk.2.1; omega
        · have := hk.2.1; omega
      have HROW6 := Aside0.mk (shift_fin l y ⟨k, v⟩ 0 hi ▸ HROW5.out.set (i := 0) (x := ⟨k, v⟩) (by simp <;> omega) hM)
      obtain ⟨W6, hW6⟩ : ∃ W6, W6 = (w5.setCell ⟨g, 0, none⟩ (.slice Ak k.length ck)).setCell ⟨g, 1, none⟩ (.slice Av v.length cv) := ⟨_, rfl⟩
      rw [← hW6] at HROW6
      have BK6 : W6.heap[w.heap.size]? = some (.cells #[.int .i64 0, .slice none 0 0, .int .i64 0] 26 (0, 0)) := by rw [hW6]; exact blk_far (blk_far BK5 HGB.out.2.2.2 _) HGB.out.2.2.2 _
      have hB6 : Below w.heap.size w W6 := by rw [hW6]; exact (HBW5.out.setCell (p := ⟨g, _, none⟩) (by have := HGB.out.1; have := HS0.out; show _ ≤ g; omega) _).setCell (p := ⟨g, _, none⟩) (by have := HGB.out.1; have := HS0.out; show _ ≤ g; omega) _
      obtain ⟨x0, x1, x2, x3⟩ := blk_cells3 BK6
      have x30 := x3 0
      have x31 := x3 1
      have x32 := x3 2
      have HW6 := Aside0.mk hW6
      have BKs6 := Aside0.mk BK6
      have HB6 := Aside0.mk hB6
      have e7 : (0 : Int) < (l.length : Int) + 1 := by omega
      have e8 : IntKind.i64.wrap ((l.length : Int) + 1) = (l.length : Int) + 1 := by rw [IntKind.wrap_i64]; have := HN.out; omega
      have e9 : 0 < l.length + 1 := by omega
      rw [hW6] at x0 x1 x2 x30 x31 x32
      clear hW6 BK6 hB6 x3 yf hM BK5 hb5 ho5
      go_wp2_with fail
      rw [← HW6.out]
      refine bodyPost_ret (results_tc rfl _ _ w.heap.size 26 #[.int .i64 0, .slice none 0 0, .int .i64 ((l.length : Int) + 1)] (0, 0) _ rfl (by refine blk_put (cs := #[.int .i64 0, .slice none 0 0, .int .i64 0]) ?_ 2 _ rfl; refine blk_put (cs := #[.int .i64 0, .slice none 0 0, .int .i64 0]) ?_ 1 _ rfl; refine blk_put (cs := #[.int .i64 0, .slice none 0 0, .int .i64 0]) ?_ 0 _ rfl; exact BKs6.out) Try.underlying26 rfl (by kernel_rfl)) rfl ?_
      have hf := HF.out
      have hp : (findR l k).1 = 0 := by rw [hf]
      rw [hp]
      have hl : (l.take 0 ++ (⟨k, v⟩ : S32) :: l.drop 0).length = l.length + 1 := by simp
      have hgb := HGB.out.1
      have hs0 := HS0.out
      refine ⟨some ⟨g, 0, none⟩, c3, _, by rw [hl]; rfl, by rw [hl]; exact HGB.out.2.1, ?_, Kd.R_nil _ _ _ _ _, ((HB6.out.setCell (Nat.le_refl _) _).setCell (Nat.le_refl _) _).setCell (Nat.le_refl _) _⟩
      refine Fr.lower (RowAt.Fr (HROW6.out.keep hgb (fun k a b => keep_put3 _ _ _ _ _ _ _ _ _ (by omega))) hgb (by rw [hl]; have := HGB.out.2.1; have := HGB.out.2.2.1; omega)) (by omega)
    · have hlen : (l.take i ++ y :: l.drop i).length = l.length + 1 := by simp; omega
      have hbd := below_drew1 (Below.refl wr.heap.size wr)
      have HROWd := Aside0.mk (HROW.out.below HGB.out.1 hbd)
      obtain ⟨A0, c0, A1, c1, x0, x1, xf, xM⟩ := HROWd.out.get (i := i - 1) (by omega)
      obtain ⟨A2, c2, A3, c3', y0, y1, yf, _⟩ := HROWd.out.get (i := i) (by omega)
      rw [shift_get l y i h0 hi] at x0 x1 xM
      obtain ⟨_, _, he, xR0, xR1⟩ := k32_openM xM
      cases he
      have q1 := Kd.C_string (P := Try.prog) (A := A0) (c := c0) Try.underlying24 Try.underlying5 Try.underlying9 (by obtain ⟨A_, c_, he_, _, hC_⟩ := Kd.R_reads xR0; cases he_; exact hC_)
      have q2 := Kd.C_string (P := Try.prog) (A := B) (c := d) Try.underlying24 Try.underlying5 Try.underlying9 (Kd.C_below (Kd.C_below HK.out HBW.out) hbd)
      have e1 : IntKind.i64.wrap ((i : Int) - 1) = ((i - 1 : Nat) : Int) := by rw [IntKind.wrap_i64]; have := HN.out; omega
      have e2 : ((i - 1 : Nat) : Int) < (l.length : Int) + 1 := by omega
      have e3 : decide ((0 : Int) < (i : Int)) = true := decide_eq_true (by omega)
      have e4 : (0 : Int) < (i : Int) := by omega
      have e5 : i - 1 < l.length + 1 := by omega
      have XM := Aside0.mk xM
      have HBKd := Aside0.mk (show wr.drew.heap[w.heap.size]? = _ from HBK.out)
      have HBWd := Aside0.mk (below_drew1 HBW.out)
      have yf0 := yf (i * 2)
      have yf1 := yf (i * 2 + 1)
      clear hbd xR0 xR1 xM yf xf
      cases hs : lessB k (rd_T32 l ((i - 1 : Nat) : Int)).f0 with
      | true =>
        have hs' : Op.bytesLess (strOfNums k).toList (strOfNums (rd_T32 l ((i - 1 : Nat) : Int)).f0).toList = true := (lessB_eq _ _).trans hs
        have HL2 := Aside0.mk (show ∀ j, i - 1 ≤ j → j < l.length → lessB k (rd_T32 l (j : Int)).f0 = true from fun j a b => by
          rcases Nat.lt_or_ge j i with h | h
          · obtain rfl : j = i - 1 := by omega
            exact hs
          · exact HL.out j h b)
        have HROW2 := Aside0.mk (shift_set l y i h0 hi ▸ HROWd.out.set (i := i) (by omega) XM.out)
        have e7 : (i : Int) < (l.length : Int) + 1 := by omega
        have e9 : i < l.length + 1 := by omega
        clear hs
        go_wp2_with fail
        go_region
        clear q1 q2
        generalize wr.drew = U1 at HROWd HROW2 HBKd HBWd x0 x1 y0 y1 yf0 yf1 ⊢
        go_wp2_with fail
        go_roundw
        case rel => exact ⟨i - 1, _, by go_num, by omega, HL2, HROW2, ⟨blk_far (blk_far HBKd.out HGB.out.2.2.2 _) HGB.out.2.2.2 _⟩, ⟨(HBWd.out.setCell (p := ⟨g, _, none⟩) (by have := HGB.out.1; have := HS0.out; show _ ≤ g; omega) _).setCell (p := ⟨g, _, none⟩) (by have := HGB.out.1; have := HS0.out; show _ ≤ g; omega) _⟩⟩
        case measure => simp [intOf]; omega
      | false =>
        have hs' : Op.bytesLess (strOfNums k).toList (strOfNums (rd_T32 l ((i - 1 : Nat) : Int)).f0).toList = false := (lessB_eq _ _).trans hs
        have HS := Aside0.mk hs
        clear hs
        go_wp2_with fail
        go_region
        clear q1 q2 x0 x1 y0 y1 yf0 yf1 HROWd HBKd HBWd XM hs' e1 e2 e3 e4 e5
        have HF := Aside0.mk (find_f l k i hi (no_key HT.out) HL.out (.inr HS.out))
        have HROWd := Aside0.mk (HROW.out.below HGB.out.1 (below_drew1 (Below.refl _ _)))
        have HBKd := Aside0.mk (show wr.drew.heap[w.heap.size]? = _ from HBK.out)
        have HBWd := Aside0.mk (below_drew1 HBW.out)
        generalize wr.drew = U1 at HROWd HBKd HBWd ⊢
        go_wp2_with fail
        refine (own23 B d k U1 (Kd.C_below HK.out HBWd.out) HD.out (by have := H8.out.1; omega)).mono ?_
        rintro e w4 ⟨va, rfl, ho4, hb4⟩
        obtain ⟨Ak, ck, rfl⟩ := Kd.R_slice ho4
        have HO4 := Aside0.mk ho4
        have HB4 := Aside0.mk hb4
        have HROW4 := Aside0.mk (HROWd.out.below HGB.out.1 hb4)
        have HBW4 := Aside0.mk (below_then HBWd.out HBWd.out.size hb4)
        clear ho4 hb4
        go_wp2_with fail
        refine (own23 D f v w4 (Kd.C_below HV.out HBW4.out) HVF.out (by have := H8.out.2; omega)).mono ?_
        rintro e w5 ⟨va, rfl, ho5, hb5⟩
        obtain ⟨Av, cv, rfl⟩ := Kd.R_slice ho5
        have HROW5 := Aside0.mk (HROW4.out.below HGB.out.1 hb5)
        have HBW5 := Aside0.mk (below_then HBW4.out HBW4.out.size hb5)
        have BK5 := (hb5.block _ (Nat.lt_of_lt_of_le (blk_lt HBKd.out) HB4.out.size)).trans ((HB4.out.block _ (blk_lt HBKd.out)).trans HBKd.out)
        obtain ⟨B0, b0, B1, b1, y0, y1, yf, _⟩ := HROW5.out.get (i := i) (by simp <;> omega)
        have yf0 := yf (i * 2)
        have yf1 := yf (i * 2 + 1)
        have hgl := (World.block_lt_of_cell? U1 _ (HROWd.out.get (i := i) (by simp <;> omega)).choose_spec.choose_spec.choose_spec.choose_spec.1)
        have hM : k32.M w5 W0.heap.size (fun k => k ≠ g) ⟨k, v⟩ [.slice Ak k.length ck, .slice Av v.length cv] := by
          have h0 := HBWd.out.size
          have hs0 := HS0.out
          have h4 := HB4.out.size
          have hgb := HGB.out.1
          have hgl : g < U1.heap.size := hgl
          refine k32_mkM _ _ _ ⟨k, v⟩ (Kd.R_lower (Kd.R_mono (Kd.R_bound (R_keep3 HO4.out (fun k a b _ => hb5.block k b))) (fun k hk => ?_)) (by omega : W0.heap.size ≤ U1.heap.size)) (Kd.R_lower (Kd.R_mono (Kd.R_bound ho5) (fun k hk => ?_)) (by omega : W0.heap.size ≤ w4.heap.size))
          · have := hk.2.1; omega
          · have := hk.2.1; omega
        have HROW6 := Aside0.mk (shift_fin l y ⟨k, v⟩ i hi ▸ HROW5.out.set (i := i) (x := ⟨k, v⟩) (by simp <;> omega) hM)
        obtain ⟨W6, hW6⟩ : ∃ W6, W6 = (w5.setCell ⟨g, i * 2, none⟩ (.slice Ak k.length ck)).setCell ⟨g, i * 2 + 1, none⟩ (.slice Av v.length cv) := ⟨_, rfl⟩
        rw [← hW6] at HROW6
        have BK6 : W6.heap[w.heap.size]? = some (.cells #[.int .i64 0, .slice none 0 0, .int .i64 0] 26 (0, 0)) := by rw [hW6]; exact blk_far (blk_far BK5 HGB.out.2.2.2 _) HGB.out.2.2.2 _
        have hB6 : Below w.heap.size w W6 := by rw [hW6]; exact (HBW5.out.setCell (p := ⟨g, _, none⟩) (by have := HGB.out.1; have := HS0.out; show _ ≤ g; omega) _).setCell (p := ⟨g, _, none⟩) (by have := HGB.out.1; have := HS0.out; show _ ≤ g; omega) _
        obtain ⟨x0, x1, x2, x3⟩ := blk_cells3 BK6
        have x30 := x3 0
        have x31 := x3 1
        have x32 := x3 2
        have HW6 := Aside0.mk hW6
        have BKs6 := Aside0.mk BK6
        have HB6 := Aside0.mk hB6
        have e7 : (i : Int) < (l.length : Int) + 1 := by omega
        have e8 : IntKind.i64.wrap ((l.length : Int) + 1) = (l.length : Int) + 1 := by rw [IntKind.wrap_i64]; have := HN.out; omega
        have e9 : i < l.length + 1 := by omega
        rw [hW6] at x0 x1 x2 x30 x31 x32
        clear hW6 BK6 hB6 x3 yf hM BK5 hb5 ho5
        go_wp2_with fail
        rw [← HW6.out]
        refine bodyPost_ret (results_tc rfl _ _ w.heap.size 26 #[.int .i64 0, .slice none 0 0, .int .i64 ((l.length : Int) + 1)] (0, 0) _ rfl (by refine blk_put (cs := #[.int .i64 0, .slice none 0 0, .int .i64 0]) ?_ 2 _ rfl; refine blk_put (cs := #[.int .i64 0, .slice none 0 0, .int .i64 0]) ?_ 1 _ rfl; refine blk_put (cs := #[.int .i64 0, .slice none 0 0, .int .i64 0]) ?_ 0 _ rfl; exact BKs6.out) Try.underlying26 rfl (by kernel_rfl)) rfl ?_
        have hf := HF.out
        have hp : (findR l k).1 = i := by rw [hf]
        rw [hp]
        have hl : (l.take i ++ (⟨k, v⟩ : S32) :: l.drop i).length = l.length + 1 := by simp; omega
        have hgb := HGB.out.1
        have hs0 := HS0.out
        refine ⟨some ⟨g, 0, none⟩, c3, _, by rw [hl]; rfl, by rw [hl]; exact HGB.out.2.1, ?_, Kd.R_nil _ _ _ _ _, ((HB6.out.setCell (Nat.le_refl _) _).setCell (Nat.le_refl _) _).setCell (Nat.le_refl _) _⟩
        refine Fr.lower (RowAt.Fr (HROW6.out.keep hgb (fun k a b => keep_put3 _ _ _ _ _ _ _ _ _ (by omega))) hgb (by rw [hl]; have := HGB.out.2.1; have := HGB.out.2.2.1; omega)) (by omega)
end Go.Proofs.Ytiodnbeifgnhcaa.Ms
