/- The law's own awake on maps, walked. -/
import Derived.Lib.SlBytesConst
import Derived.Test.YtiodnbeifgnhcaaMe
namespace Go.Proofs.Ytiodnbeifgnhcaa.Ms
open Go.RowKit Go.Proofs.YtiodnbeifgnhcaaW.PrintWords Go.Proofs.YtiodnbeifgnhcaaW.PrintLast Go.Proofs.YtiodnbeifgnhcaaW.PrintMore
attribute [local go_sem] max2_int min2_int max_two min_two max_three min_three max_four min_four
set_option linter.unusedVariables false
set_option linter.unusedSimpArgs false

theorem blk3_keep {w w' : World} {g : Nat} {o : Obj} (h : w.heap[g]? = some o) (hb : Below w.heap.size w w') : w'.heap[g]? = some o := (hb.block g (blk_lt h)).trans h
theorem lit_u8 {w : World} {g n : Nat} {fr : Nat × Nat} (xs : List Int) (h : w.heap[g]? = some (.cells (xs.map (Value.int .u8)).toArray 5 fr)) (hm : xs.length ≤ 9223372036854775807) (hn : n = xs.length) : Kd.C (Kd.int .u8) w (some ⟨g, 0, none⟩) n xs := by
  refine ⟨hn.symm, by omega, fun _ => ⟨_, rfl, fun j p hj => ⟨[.int .u8 p], rfl, rfl, fun i u hu => ?_⟩⟩⟩
  cases i with
  | zero =>
    obtain rfl := Option.some.inj hu
    rw [add_plain]
    show w.cell? ⟨g, j * 1 + 0, none⟩ = _
    rw [show w.cell? ⟨g, j * 1 + 0, none⟩ = (xs.map (Value.int .u8)).toArray[j * 1 + 0]? from by simp [World.cell?, h]]
    show (xs.map (Value.int .u8)).toArray[j * 1 + 0]? = _
    simp [hj]
  | succ i => simp at hu
theorem field0 (w : World) (a b : Int) (A : Option Addr) (n c : Nat) : (Instr.field 26 (.agg #[.int .i64 a, .slice A n c, .int .i64 b]) 0).run Try.prog w = .ok (.int .i64 a) w := by kernel_rfl
theorem field1 (w : World) (a b : Int) (A : Option Addr) (n c : Nat) : (Instr.field 26 (.agg #[.int .i64 a, .slice A n c, .int .i64 b]) 1).run Try.prog w = .ok (.slice A n c) w := by kernel_rfl
theorem conv_same (w : World) (C : Array Value) (n c g : Nat) (hg : w.heap.size = g) : (convert 24 24 (.slice (some ⟨g, 0, none⟩) n c)).run Try.prog (w.alloc (.cells C 5)) = .ok (.slice (some ⟨g, 0, none⟩) n c) (w.alloc (.cells C 5 (C.size, C.size + 1))) := by
  subst hg
  exact Lib.run_convert_bytes_const (P := Try.prog) w 24 5 C n c Try.underlying24 Try.underlying5

theorem p1 : putR [] [98] [49] = ([⟨[98],[49]⟩], ⟨0,[],1⟩) := by kernel_rfl
theorem p2 : putR [⟨[98],[49]⟩] [97] [50] = ([⟨[97],[50]⟩,⟨[98],[49]⟩], ⟨0,[],2⟩) := by kernel_rfl
theorem p3 : putR [⟨[97],[50]⟩,⟨[98],[49]⟩] [98] [51] = ([⟨[97],[50]⟩,⟨[98],[51]⟩], ⟨0,[49],2⟩) := by kernel_rfl
theorem p4 : delR [⟨[97],[50]⟩,⟨[98],[51]⟩] [97] = ([⟨[98],[51]⟩], ⟨0,[50],0⟩) := by kernel_rfl
theorem p5 : getR [⟨[97],[50]⟩,⟨[98],[51]⟩] [98] = ⟨0,[51],0⟩ := by kernel_rfl
theorem p6 : getR [⟨[98],[51]⟩] [97] = ⟨5,[],0⟩ := by kernel_rfl
def PutAt (w : World) (l' : List S32) (r : S26) (e : Ending) (w' : World) : Prop := ∃ A' c' Av cv, e = .returned (.tuple #[.slice A' l'.length c', .agg #[.int .i64 r.f0, .slice Av r.f1.length cv, .int .i64 r.f2]]) ∧ l'.length ≤ c' ∧ Kd.C k32 w' A' l'.length l' ∧ Kd.C (Kd.int .u8) w' Av r.f1.length r.f1 ∧ Below w.heap.size w w'
theorem PutEnd.at {w w' : World} {l' : List S32} {r : S26} {e : Ending} (h : PutEnd w l' r e w') : PutAt w l' r e w' := by
  obtain ⟨A, c, v, rfl, hc, hF, hV, hb⟩ := h
  obtain ⟨Av, cv, rfl, hcv, hV⟩ := Kd.R_reads hV
  exact ⟨A, c, Av, cv, rfl, hc, Fr.C hF, hV, hb⟩
theorem put_at (A B D : Option Addr) (c : Nat) (l l' : List S32) (k v : List Int) (r : S26) (w : World) (hr : Kd.C k32 w A l.length l) (hc : l.length ≤ c) (hk : Kd.C (Kd.int .u8) w B k.length k) (hvr : Kd.C (Kd.int .u8) w D v.length v) (hn : l.length < 1000000) (hv : ∀ x ∈ l, x.f0.length < 140737488355328 ∧ x.f1.length < 140737488355328) (hkk : k.length < 1000) (hvv : v.length < 1000) (h : putR l k v = (l', r)) :
    Calls Try.prog 6 #[.slice A l.length c, .slice B k.length k.length, .slice D v.length v.length] w (PutAt w l' r) := by
  have h1 := put6 A B D c k.length v.length l k v w hr hc hn hv hk (Nat.le_refl _) hvr (Nat.le_refl _)
  rw [h] at h1
  exact h1.mono (fun _ _ h => h.at)
theorem del_at (A B : Option Addr) (c : Nat) (l l' : List S32) (k : List Int) (r : S26) (w : World) (hr : Kd.C k32 w A l.length l) (hc : l.length ≤ c) (hk : Kd.C (Kd.int .u8) w B k.length k) (hn : l.length < 1000000) (hv : ∀ x ∈ l, x.f0.length < 140737488355328 ∧ x.f1.length < 140737488355328) (hkk : k.length < 1000) (h : delR l k = (l', r)) :
    Calls Try.prog 12 #[.slice A l.length c, .slice B k.length k.length] w (PutAt w l' r) := by
  have h1 := del12 A B c k.length l k w hr hc hn hv hk (Nat.le_refl _)
  rw [h] at h1
  exact h1.mono (fun _ _ h => h.at)
theorem get_at (A B : Option Addr) (c : Nat) (l : List S32) (k : List Int) (r : S26) (w : World) (hr : Kd.C k32 w A l.length l) (hc : l.length ≤ c) (hk : Kd.C (Kd.int .u8) w B k.length k) (hv : ∀ x ∈ l, x.f1.length < 140737488355328) (h : getR l k = r) :
    Calls Try.prog 8 #[.slice A l.length c, .slice B k.length k.length] w fun e w' => ∃ Av cv, e = .returned (.agg #[.int .i64 r.f0, .slice Av r.f1.length cv, .int .i64 r.f2]) ∧ Kd.C (Kd.int .u8) w' Av r.f1.length r.f1 ∧ Below w.heap.size w w' := by
  have h1 := get8 A B c k.length l k w hr hc hk (Nat.le_refl _) hv
  rw [h] at h1
  refine h1.mono ?_
  rintro e w' ⟨v, rfl, hV, hb⟩
  obtain ⟨Av, cv, rfl, hcv, hV⟩ := Kd.R_reads hV
  exact ⟨Av, cv, rfl, hV, hb⟩
set_option maxHeartbeats 1000000 in
theorem awake9 (w : World) : Calls Try.prog 9 #[] w fun e w' => e = .returned (.bool true) ∧ Below w.heap.size w w' := by
  have HB := Aside0.mk (Below.refl w.heap.size w)
  have kc := conv_same
  have hf0 := field0
  have hf1 := field1
  go_enter Try.func9, Try.ntmps9
  go_wp2_with fail
  obtain ⟨V1, hV1⟩ : ∃ V_, V_ = ((w.alloc (.cells #[.int .u8 98] 5 (1, 2))).alloc (.cells #[.int .u8 49] 5 (1, 2))) := ⟨_, rfl⟩
  rw [← hV1]
  have hb_ : Below w.heap.size w V1 := by rw [hV1]; exact (below_alloc (below_alloc (Below.refl _ _) (.cells #[.int .u8 98] 5 (1, 2))) (.cells #[.int .u8 49] 5 (1, 2)))
  have hs_ : V1.heap.size = w.heap.size + 2 := by rw [hV1]; simp
  replace HB := Aside0.mk (below_then HB.out HB.out.size hb_)
  have L1 : Aside0 (V1.heap[w.heap.size]? = some (.cells #[.int .u8 98] 5 (1, 2))) := Aside0.mk (by rw [hV1]; have h_ := blk_alloc (heap_alloc_self w (.cells #[.int .u8 98] 5 (1, 2))) (.cells #[.int .u8 49] 5 (1, 2)); simpa using h_)
  have L2 : Aside0 (V1.heap[w.heap.size + 1]? = some (.cells #[.int .u8 49] 5 (1, 2))) := Aside0.mk (by rw [hV1]; have h_ := heap_alloc_self (w.alloc (.cells #[.int .u8 98] 5 (1, 2))) (.cells #[.int .u8 49] 5 (1, 2)); simpa using h_)
  clear hV1 hb_ hs_
  refine (put_at none (some ⟨w.heap.size, 0, none⟩) (some ⟨w.heap.size + 1, 0, none⟩) 0 _ _ _ _ _ V1 ⟨rfl, by decide, fun h => absurd h (by decide)⟩ (Nat.le_refl _) (lit_u8 [98] L1.out (by decide) rfl) (lit_u8 [49] L2.out (by decide) rfl) (by decide) (by decide) (by decide) (by decide) p1).mono ?_
  rintro e w1 ⟨A1, c1, Av1, cv1, rfl, hc1, hF1, hV1, hb_⟩
  replace HB := Aside0.mk (below_then HB.out HB.out.size hb_)
  replace L1 := Aside0.mk (blk3_keep L1.out hb_)
  replace L2 := Aside0.mk (blk3_keep L2.out hb_)
  have HF1 := Aside0.mk hF1
  have HV1 := Aside0.mk hV1
  have HC1 := Aside0.mk hc1
  clear hc1 hF1 hV1 hb_
  simp only [List.length_cons, List.length_nil, Nat.zero_add, Nat.reduceAdd]
  go_wp2_with fail
  obtain ⟨V2, hV2⟩ : ∃ V_, V_ = (((w1.alloc (.cells #[.int .i64 0, .slice Av1 0 cv1, .int .i64 1] 26)).alloc (.cells #[.int .u8 97] 5 (1, 2))).alloc (.cells #[.int .u8 50] 5 (1, 2))) := ⟨_, rfl⟩
  rw [← hV2]
  have hb_ : Below w1.heap.size w1 V2 := by rw [hV2]; exact (below_alloc (below_alloc (below_alloc (Below.refl _ _) (.cells #[.int .i64 0, .slice Av1 0 cv1, .int .i64 1] 26)) (.cells #[.int .u8 97] 5 (1, 2))) (.cells #[.int .u8 50] 5 (1, 2)))
  have hs_ : V2.heap.size = w1.heap.size + 3 := by rw [hV2]; simp
  replace HB := Aside0.mk (below_then HB.out HB.out.size hb_)
  replace L1 := Aside0.mk (blk3_keep L1.out hb_)
  replace L2 := Aside0.mk (blk3_keep L2.out hb_)
  replace HF1 := Aside0.mk (Kd.C_below HF1.out hb_)
  replace HV1 := Aside0.mk (Kd.C_below HV1.out hb_)
  have BR : Aside0 (V2.heap[w1.heap.size]? = some (.cells #[.int .i64 0, .slice Av1 0 cv1, .int .i64 1] 26 (0, 0))) := Aside0.mk (by rw [hV2]; have h_ := blk_alloc (blk_alloc (heap_alloc_self w1 (.cells #[.int .i64 0, .slice Av1 0 cv1, .int .i64 1] 26)) (.cells #[.int .u8 97] 5 (1, 2))) (.cells #[.int .u8 50] 5 (1, 2)); simpa using h_)
  have L3 : Aside0 (V2.heap[w1.heap.size + 1]? = some (.cells #[.int .u8 97] 5 (1, 2))) := Aside0.mk (by rw [hV2]; have h_ := blk_alloc (heap_alloc_self (w1.alloc (.cells #[.int .i64 0, .slice Av1 0 cv1, .int .i64 1] 26)) (.cells #[.int .u8 97] 5 (1, 2))) (.cells #[.int .u8 50] 5 (1, 2)); simpa using h_)
  have L4 : Aside0 (V2.heap[w1.heap.size + 2]? = some (.cells #[.int .u8 50] 5 (1, 2))) := Aside0.mk (by rw [hV2]; have h_ := heap_alloc_self ((w1.alloc (.cells #[.int .i64 0, .slice Av1 0 cv1, .int .i64 1] 26)).alloc (.cells #[.int .u8 97] 5 (1, 2))) (.cells #[.int .u8 50] 5 (1, 2)); simpa using h_)
  clear hV2 hb_ hs_
  refine (put_at A1 (some ⟨w1.heap.size + 1, 0, none⟩) (some ⟨w1.heap.size + 2, 0, none⟩) c1 _ _ _ _ _ V2 HF1.out HC1.out (lit_u8 [97] L3.out (by decide) rfl) (lit_u8 [50] L4.out (by decide) rfl) (by decide) (by decide) (by decide) (by decide) p2).mono ?_
  rintro e w2 ⟨A2, c2, Av2, cv2, rfl, hc2, hF2, hV2, hb_⟩
  replace HB := Aside0.mk (below_then HB.out HB.out.size hb_)
  replace L1 := Aside0.mk (blk3_keep L1.out hb_)
  replace L2 := Aside0.mk (blk3_keep L2.out hb_)
  replace HF1 := Aside0.mk (Kd.C_below HF1.out hb_)
  replace HV1 := Aside0.mk (Kd.C_below HV1.out hb_)
  replace BR := Aside0.mk (blk3_keep BR.out hb_)
  replace L3 := Aside0.mk (blk3_keep L3.out hb_)
  replace L4 := Aside0.mk (blk3_keep L4.out hb_)
  have HF2 := Aside0.mk hF2
  have HV2 := Aside0.mk hV2
  have HC2 := Aside0.mk hc2
  clear hc2 hF2 hV2 hb_
  simp only [List.length_cons, List.length_nil, Nat.zero_add, Nat.reduceAdd]
  go_wp2_with fail
  obtain ⟨V3, hV3⟩ : ∃ V_, V_ = (((w2.alloc (.cells #[.int .i64 0, .slice Av2 0 cv2, .int .i64 2] 26)).alloc (.cells #[.int .u8 98] 5 (1, 2))).alloc (.cells #[.int .u8 51] 5 (1, 2))) := ⟨_, rfl⟩
  rw [← hV3]
  have hb_ : Below w2.heap.size w2 V3 := by rw [hV3]; exact (below_alloc (below_alloc (below_alloc (Below.refl _ _) (.cells #[.int .i64 0, .slice Av2 0 cv2, .int .i64 2] 26)) (.cells #[.int .u8 98] 5 (1, 2))) (.cells #[.int .u8 51] 5 (1, 2)))
  have hs_ : V3.heap.size = w2.heap.size + 3 := by rw [hV3]; simp
  replace HB := Aside0.mk (below_then HB.out HB.out.size hb_)
  replace L1 := Aside0.mk (blk3_keep L1.out hb_)
  replace L2 := Aside0.mk (blk3_keep L2.out hb_)
  replace HF1 := Aside0.mk (Kd.C_below HF1.out hb_)
  replace HV1 := Aside0.mk (Kd.C_below HV1.out hb_)
  replace BR := Aside0.mk (blk3_keep BR.out hb_)
  replace L3 := Aside0.mk (blk3_keep L3.out hb_)
  replace L4 := Aside0.mk (blk3_keep L4.out hb_)
  replace HF2 := Aside0.mk (Kd.C_below HF2.out hb_)
  replace HV2 := Aside0.mk (Kd.C_below HV2.out hb_)
  have BQ : Aside0 (V3.heap[w2.heap.size]? = some (.cells #[.int .i64 0, .slice Av2 0 cv2, .int .i64 2] 26 (0, 0))) := Aside0.mk (by rw [hV3]; have h_ := blk_alloc (blk_alloc (heap_alloc_self w2 (.cells #[.int .i64 0, .slice Av2 0 cv2, .int .i64 2] 26)) (.cells #[.int .u8 98] 5 (1, 2))) (.cells #[.int .u8 51] 5 (1, 2)); simpa using h_)
  have L5 : Aside0 (V3.heap[w2.heap.size + 1]? = some (.cells #[.int .u8 98] 5 (1, 2))) := Aside0.mk (by rw [hV3]; have h_ := blk_alloc (heap_alloc_self (w2.alloc (.cells #[.int .i64 0, .slice Av2 0 cv2, .int .i64 2] 26)) (.cells #[.int .u8 98] 5 (1, 2))) (.cells #[.int .u8 51] 5 (1, 2)); simpa using h_)
  have L6 : Aside0 (V3.heap[w2.heap.size + 2]? = some (.cells #[.int .u8 51] 5 (1, 2))) := Aside0.mk (by rw [hV3]; have h_ := heap_alloc_self ((w2.alloc (.cells #[.int .i64 0, .slice Av2 0 cv2, .int .i64 2] 26)).alloc (.cells #[.int .u8 98] 5 (1, 2))) (.cells #[.int .u8 51] 5 (1, 2)); simpa using h_)
  clear hV3 hb_ hs_
  refine (put_at A2 (some ⟨w2.heap.size + 1, 0, none⟩) (some ⟨w2.heap.size + 2, 0, none⟩) c2 _ _ _ _ _ V3 HF2.out HC2.out (lit_u8 [98] L5.out (by decide) rfl) (lit_u8 [51] L6.out (by decide) rfl) (by decide) (by decide) (by decide) (by decide) p3).mono ?_
  rintro e w3 ⟨A3, c3, Av3, cv3, rfl, hc3, hF3, hV3, hb_⟩
  replace HB := Aside0.mk (below_then HB.out HB.out.size hb_)
  replace L1 := Aside0.mk (blk3_keep L1.out hb_)
  replace L2 := Aside0.mk (blk3_keep L2.out hb_)
  replace HF1 := Aside0.mk (Kd.C_below HF1.out hb_)
  replace HV1 := Aside0.mk (Kd.C_below HV1.out hb_)
  replace BR := Aside0.mk (blk3_keep BR.out hb_)
  replace L3 := Aside0.mk (blk3_keep L3.out hb_)
  replace L4 := Aside0.mk (blk3_keep L4.out hb_)
  replace HF2 := Aside0.mk (Kd.C_below HF2.out hb_)
  replace HV2 := Aside0.mk (Kd.C_below HV2.out hb_)
  replace BQ := Aside0.mk (blk3_keep BQ.out hb_)
  replace L5 := Aside0.mk (blk3_keep L5.out hb_)
  replace L6 := Aside0.mk (blk3_keep L6.out hb_)
  have HF3 := Aside0.mk hF3
  have HV3 := Aside0.mk hV3
  have HC3 := Aside0.mk hc3
  clear hc3 hF3 hV3 hb_
  simp only [List.length_cons, List.length_nil, Nat.zero_add, Nat.reduceAdd]
  go_wp2_with fail
  obtain ⟨V4, hV4⟩ : ∃ V_, V_ = ((w3.alloc (.cells #[.int .i64 0, .slice Av3 1 cv3, .int .i64 2] 26)).alloc (.cells #[.int .u8 97] 5 (1, 2))) := ⟨_, rfl⟩
  rw [← hV4]
  have hb_ : Below w3.heap.size w3 V4 := by rw [hV4]; exact (below_alloc (below_alloc (Below.refl _ _) (.cells #[.int .i64 0, .slice Av3 1 cv3, .int .i64 2] 26)) (.cells #[.int .u8 97] 5 (1, 2)))
  have hs_ : V4.heap.size = w3.heap.size + 2 := by rw [hV4]; simp
  replace HB := Aside0.mk (below_then HB.out HB.out.size hb_)
  replace L1 := Aside0.mk (blk3_keep L1.out hb_)
  replace L2 := Aside0.mk (blk3_keep L2.out hb_)
  replace HF1 := Aside0.mk (Kd.C_below HF1.out hb_)
  replace HV1 := Aside0.mk (Kd.C_below HV1.out hb_)
  replace BR := Aside0.mk (blk3_keep BR.out hb_)
  replace L3 := Aside0.mk (blk3_keep L3.out hb_)
  replace L4 := Aside0.mk (blk3_keep L4.out hb_)
  replace HF2 := Aside0.mk (Kd.C_below HF2.out hb_)
  replace HV2 := Aside0.mk (Kd.C_below HV2.out hb_)
  replace BQ := Aside0.mk (blk3_keep BQ.out hb_)
  replace L5 := Aside0.mk (blk3_keep L5.out hb_)
  replace L6 := Aside0.mk (blk3_keep L6.out hb_)
  replace HF3 := Aside0.mk (Kd.C_below HF3.out hb_)
  replace HV3 := Aside0.mk (Kd.C_below HV3.out hb_)
  have BP : Aside0 (V4.heap[w3.heap.size]? = some (.cells #[.int .i64 0, .slice Av3 1 cv3, .int .i64 2] 26 (0, 0))) := Aside0.mk (by rw [hV4]; have h_ := blk_alloc (heap_alloc_self w3 (.cells #[.int .i64 0, .slice Av3 1 cv3, .int .i64 2] 26)) (.cells #[.int .u8 97] 5 (1, 2)); simpa using h_)
  have L7 : Aside0 (V4.heap[w3.heap.size + 1]? = some (.cells #[.int .u8 97] 5 (1, 2))) := Aside0.mk (by rw [hV4]; have h_ := heap_alloc_self (w3.alloc (.cells #[.int .i64 0, .slice Av3 1 cv3, .int .i64 2] 26)) (.cells #[.int .u8 97] 5 (1, 2)); simpa using h_)
  clear hV4 hb_ hs_
  refine (del_at A3 (some ⟨w3.heap.size + 1, 0, none⟩) c3 _ _ _ _ V4 HF3.out HC3.out (lit_u8 [97] L7.out (by decide) rfl) (by decide) (by decide) (by decide) p4).mono ?_
  rintro e w4 ⟨A4, c4, Av4, cv4, rfl, hc4, hF4, hV4, hb_⟩
  replace HB := Aside0.mk (below_then HB.out HB.out.size hb_)
  replace L1 := Aside0.mk (blk3_keep L1.out hb_)
  replace L2 := Aside0.mk (blk3_keep L2.out hb_)
  replace HF1 := Aside0.mk (Kd.C_below HF1.out hb_)
  replace HV1 := Aside0.mk (Kd.C_below HV1.out hb_)
  replace BR := Aside0.mk (blk3_keep BR.out hb_)
  replace L3 := Aside0.mk (blk3_keep L3.out hb_)
  replace L4 := Aside0.mk (blk3_keep L4.out hb_)
  replace HF2 := Aside0.mk (Kd.C_below HF2.out hb_)
  replace HV2 := Aside0.mk (Kd.C_below HV2.out hb_)
  replace BQ := Aside0.mk (blk3_keep BQ.out hb_)
  replace L5 := Aside0.mk (blk3_keep L5.out hb_)
  replace L6 := Aside0.mk (blk3_keep L6.out hb_)
  replace HF3 := Aside0.mk (Kd.C_below HF3.out hb_)
  replace HV3 := Aside0.mk (Kd.C_below HV3.out hb_)
  replace BP := Aside0.mk (blk3_keep BP.out hb_)
  replace L7 := Aside0.mk (blk3_keep L7.out hb_)
  have HF4 := Aside0.mk hF4
  have HV4 := Aside0.mk hV4
  have HC4 := Aside0.mk hc4
  clear hc4 hF4 hV4 hb_
  simp only [List.length_cons, List.length_nil, Nat.zero_add, Nat.reduceAdd]
  have bx := below_alloc (Below.refl w4.heap.size w4) (.cells #[.int .i64 0, .slice Av4 1 cv4, .int .i64 0] 26)
  obtain ⟨BR0, BR1, BR2, BR3⟩ := blk_cells3 (blk3_keep BR.out bx)
  obtain ⟨BQ0, BQ1, BQ2, BQ3⟩ := blk_cells3 (blk3_keep BQ.out bx)
  obtain ⟨BP0, BP1, BP2, BP3⟩ := blk_cells3 (blk3_keep BP.out bx)
  clear BR0 BR1 BR3 BQ0 BQ1 BQ3 BP0 BP3
  obtain ⟨ad, K0, k0, K1, k1, e_, g0, g1, l0, r0, l1, r1⟩ := at_T32 (Kd.C_below HF2.out bx) 0 (by decide) (by decide)
  cases e_
  clear g1 l0 l1 r1
  simp only [Int.toNat_zero, Nat.zero_mul, Addr.add_zero'] at g0
  have q1 := Kd.C_string (P := Try.prog) (A := K0) (c := k0) Try.underlying24 Try.underlying5 Try.underlying9 r0
  have q2 := Kd.C_string (P := Try.prog) (A := Av3) (c := cv3) Try.underlying24 Try.underlying5 Try.underlying9 (Kd.C_below HV3.out bx)
  clear r0 bx
  have j1 : rd_T32 [⟨[97],[50]⟩,⟨[98],[49]⟩] 0 = ⟨[97],[50]⟩ := rfl
  rw [j1] at q1 g0
  simp only [List.length_cons, List.length_nil, Nat.zero_add, Nat.reduceAdd] at q1 q2
  have j2 : strOfNums [97] = ⟨#[97]⟩ := rfl
  have j3 : strOfNums [49] = ⟨#[49]⟩ := rfl
  have j4 : strOfNums [51] = ⟨#[51]⟩ := rfl
  have j5 : strOfNums [50] = ⟨#[50]⟩ := rfl
  go_wp2_with fail
  clear q1 q2 g0 BR2 BQ2 BP1 BP2
  obtain ⟨V5, hV5⟩ : ∃ V_, V_ = ((w4.alloc (.cells #[.int .i64 0, .slice Av4 1 cv4, .int .i64 0] 26)).alloc (.cells #[.int .u8 98] 5 (1, 2))) := ⟨_, rfl⟩
  rw [← hV5]
  have hb_ : Below w4.heap.size w4 V5 := by rw [hV5]; exact (below_alloc (below_alloc (Below.refl _ _) (.cells #[.int .i64 0, .slice Av4 1 cv4, .int .i64 0] 26)) (.cells #[.int .u8 98] 5 (1, 2)))
  have hs_ : V5.heap.size = w4.heap.size + 2 := by rw [hV5]; simp
  replace HB := Aside0.mk (below_then HB.out HB.out.size hb_)
  replace L1 := Aside0.mk (blk3_keep L1.out hb_)
  replace L2 := Aside0.mk (blk3_keep L2.out hb_)
  replace HF1 := Aside0.mk (Kd.C_below HF1.out hb_)
  replace HV1 := Aside0.mk (Kd.C_below HV1.out hb_)
  replace BR := Aside0.mk (blk3_keep BR.out hb_)
  replace L3 := Aside0.mk (blk3_keep L3.out hb_)
  replace L4 := Aside0.mk (blk3_keep L4.out hb_)
  replace HF2 := Aside0.mk (Kd.C_below HF2.out hb_)
  replace HV2 := Aside0.mk (Kd.C_below HV2.out hb_)
  replace BQ := Aside0.mk (blk3_keep BQ.out hb_)
  replace L5 := Aside0.mk (blk3_keep L5.out hb_)
  replace L6 := Aside0.mk (blk3_keep L6.out hb_)
  replace HF3 := Aside0.mk (Kd.C_below HF3.out hb_)
  replace HV3 := Aside0.mk (Kd.C_below HV3.out hb_)
  replace BP := Aside0.mk (blk3_keep BP.out hb_)
  replace L7 := Aside0.mk (blk3_keep L7.out hb_)
  replace HF4 := Aside0.mk (Kd.C_below HF4.out hb_)
  replace HV4 := Aside0.mk (Kd.C_below HV4.out hb_)
  have BD : Aside0 (V5.heap[w4.heap.size]? = some (.cells #[.int .i64 0, .slice Av4 1 cv4, .int .i64 0] 26 (0, 0))) := Aside0.mk (by rw [hV5]; have h_ := blk_alloc (heap_alloc_self w4 (.cells #[.int .i64 0, .slice Av4 1 cv4, .int .i64 0] 26)) (.cells #[.int .u8 98] 5 (1, 2)); simpa using h_)
  have L8 : Aside0 (V5.heap[w4.heap.size + 1]? = some (.cells #[.int .u8 98] 5 (1, 2))) := Aside0.mk (by rw [hV5]; have h_ := heap_alloc_self (w4.alloc (.cells #[.int .i64 0, .slice Av4 1 cv4, .int .i64 0] 26)) (.cells #[.int .u8 98] 5 (1, 2)); simpa using h_)
  clear hV5 hb_ hs_
  refine (get_at A3 (some ⟨w4.heap.size + 1, 0, none⟩) c3 _ _ _ V5 HF3.out HC3.out (lit_u8 [98] L8.out (by decide) rfl) (by decide) p5).mono ?_
  rintro e w5 ⟨Av5, cv5, rfl, hV5, hb_⟩
  replace HB := Aside0.mk (below_then HB.out HB.out.size hb_)
  replace L1 := Aside0.mk (blk3_keep L1.out hb_)
  replace L2 := Aside0.mk (blk3_keep L2.out hb_)
  replace HF1 := Aside0.mk (Kd.C_below HF1.out hb_)
  replace HV1 := Aside0.mk (Kd.C_below HV1.out hb_)
  replace BR := Aside0.mk (blk3_keep BR.out hb_)
  replace L3 := Aside0.mk (blk3_keep L3.out hb_)
  replace L4 := Aside0.mk (blk3_keep L4.out hb_)
  replace HF2 := Aside0.mk (Kd.C_below HF2.out hb_)
  replace HV2 := Aside0.mk (Kd.C_below HV2.out hb_)
  replace BQ := Aside0.mk (blk3_keep BQ.out hb_)
  replace L5 := Aside0.mk (blk3_keep L5.out hb_)
  replace L6 := Aside0.mk (blk3_keep L6.out hb_)
  replace HF3 := Aside0.mk (Kd.C_below HF3.out hb_)
  replace HV3 := Aside0.mk (Kd.C_below HV3.out hb_)
  replace BP := Aside0.mk (blk3_keep BP.out hb_)
  replace L7 := Aside0.mk (blk3_keep L7.out hb_)
  replace HF4 := Aside0.mk (Kd.C_below HF4.out hb_)
  replace HV4 := Aside0.mk (Kd.C_below HV4.out hb_)
  replace BD := Aside0.mk (blk3_keep BD.out hb_)
  replace L8 := Aside0.mk (blk3_keep L8.out hb_)
  have HV5 := Aside0.mk hV5
  clear hV5 hb_
  simp only [List.length_cons, List.length_nil, Nat.zero_add, Nat.reduceAdd]
  have q1 := Kd.C_string (P := Try.prog) (A := Av5) (c := cv5) Try.underlying24 Try.underlying5 Try.underlying9 HV5.out
  have q2 := Kd.C_string (P := Try.prog) (A := Av4) (c := cv4) Try.underlying24 Try.underlying5 Try.underlying9 HV4.out
  simp only [List.length_cons, List.length_nil, Nat.zero_add, Nat.reduceAdd] at q1 q2
  obtain ⟨BD0, BD1, BD2, BD3⟩ := blk_cells3 BD.out
  clear BD0 BD2 BD3
  go_wp2_with fail
  clear q1 q2 BD1
  obtain ⟨V6, hV6⟩ : ∃ V_, V_ = (w5.alloc (.cells #[.int .u8 97] 5 (1, 2))) := ⟨_, rfl⟩
  rw [← hV6]
  have hb_ : Below w5.heap.size w5 V6 := by rw [hV6]; exact (below_alloc (Below.refl _ _) (.cells #[.int .u8 97] 5 (1, 2)))
  have hs_ : V6.heap.size = w5.heap.size + 1 := by rw [hV6]; simp
  replace HB := Aside0.mk (below_then HB.out HB.out.size hb_)
  replace L1 := Aside0.mk (blk3_keep L1.out hb_)
  replace L2 := Aside0.mk (blk3_keep L2.out hb_)
  replace HF1 := Aside0.mk (Kd.C_below HF1.out hb_)
  replace HV1 := Aside0.mk (Kd.C_below HV1.out hb_)
  replace BR := Aside0.mk (blk3_keep BR.out hb_)
  replace L3 := Aside0.mk (blk3_keep L3.out hb_)
  replace L4 := Aside0.mk (blk3_keep L4.out hb_)
  replace HF2 := Aside0.mk (Kd.C_below HF2.out hb_)
  replace HV2 := Aside0.mk (Kd.C_below HV2.out hb_)
  replace BQ := Aside0.mk (blk3_keep BQ.out hb_)
  replace L5 := Aside0.mk (blk3_keep L5.out hb_)
  replace L6 := Aside0.mk (blk3_keep L6.out hb_)
  replace HF3 := Aside0.mk (Kd.C_below HF3.out hb_)
  replace HV3 := Aside0.mk (Kd.C_below HV3.out hb_)
  replace BP := Aside0.mk (blk3_keep BP.out hb_)
  replace L7 := Aside0.mk (blk3_keep L7.out hb_)
  replace HF4 := Aside0.mk (Kd.C_below HF4.out hb_)
  replace HV4 := Aside0.mk (Kd.C_below HV4.out hb_)
  replace BD := Aside0.mk (blk3_keep BD.out hb_)
  replace L8 := Aside0.mk (blk3_keep L8.out hb_)
  replace HV5 := Aside0.mk (Kd.C_below HV5.out hb_)
  have L9 : Aside0 (V6.heap[w5.heap.size]? = some (.cells #[.int .u8 97] 5 (1, 2))) := Aside0.mk (by rw [hV6]; have h_ := heap_alloc_self w5 (.cells #[.int .u8 97] 5 (1, 2)); simpa using h_)
  clear hV6 hb_ hs_
  refine (get_at A4 (some ⟨w5.heap.size, 0, none⟩) c4 _ _ _ V6 HF4.out HC4.out (lit_u8 [97] L9.out (by decide) rfl) (by decide) p6).mono ?_
  rintro e w6 ⟨Av6, cv6, rfl, hV6, hb_⟩
  replace HB := Aside0.mk (below_then HB.out HB.out.size hb_)
  replace L1 := Aside0.mk (blk3_keep L1.out hb_)
  replace L2 := Aside0.mk (blk3_keep L2.out hb_)
  replace HF1 := Aside0.mk (Kd.C_below HF1.out hb_)
  replace HV1 := Aside0.mk (Kd.C_below HV1.out hb_)
  replace BR := Aside0.mk (blk3_keep BR.out hb_)
  replace L3 := Aside0.mk (blk3_keep L3.out hb_)
  replace L4 := Aside0.mk (blk3_keep L4.out hb_)
  replace HF2 := Aside0.mk (Kd.C_below HF2.out hb_)
  replace HV2 := Aside0.mk (Kd.C_below HV2.out hb_)
  replace BQ := Aside0.mk (blk3_keep BQ.out hb_)
  replace L5 := Aside0.mk (blk3_keep L5.out hb_)
  replace L6 := Aside0.mk (blk3_keep L6.out hb_)
  replace HF3 := Aside0.mk (Kd.C_below HF3.out hb_)
  replace HV3 := Aside0.mk (Kd.C_below HV3.out hb_)
  replace BP := Aside0.mk (blk3_keep BP.out hb_)
  replace L7 := Aside0.mk (blk3_keep L7.out hb_)
  replace HF4 := Aside0.mk (Kd.C_below HF4.out hb_)
  replace HV4 := Aside0.mk (Kd.C_below HV4.out hb_)
  replace BD := Aside0.mk (blk3_keep BD.out hb_)
  replace L8 := Aside0.mk (blk3_keep L8.out hb_)
  replace HV5 := Aside0.mk (Kd.C_below HV5.out hb_)
  replace L9 := Aside0.mk (blk3_keep L9.out hb_)
  have HV6 := Aside0.mk hV6
  clear hV6 hb_
  simp only [List.length_cons, List.length_nil, Nat.zero_add, Nat.reduceAdd]
  go_wp2_with fail
  go_ret
  exact ⟨rfl, HB.out⟩
end Go.Proofs.Ytiodnbeifgnhcaa.Ms
