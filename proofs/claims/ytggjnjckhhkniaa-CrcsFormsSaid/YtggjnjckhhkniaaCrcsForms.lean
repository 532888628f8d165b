/- Sums of known bytes are what they should be, at each of the eight rows; no conditions. -/
import Derived.Test.YtggjnjckhhkniaaRows
import Derived.ProofKit
import Derived.OpenShut
import Derived.ShutString
import Derived.ChangeOld
import Derived.Below
import Derived.SizedLaws
import Derived.Test.YtggjnjckhhkniaaCs
import Derived.Deep.DrawnRows
namespace Go.Proofs.Ytggjnjckhhkniaa.Cs
open Go.RowKit Go.Proofs.YtggjnjckhhkniaaW.PrintWords Go.Proofs.YtggjnjckhhkniaaW.PrintLast Go.Proofs.YtggjnjckhhkniaaW.PrintMore
set_option linter.unusedSimpArgs false
attribute [local go_sem ↓] Go.wp_at_zero Go.wp_at_succ
theorem Below.bytesWorld {B : Nat} {a W : World} (h : Below B a W) (hB : B ≤ W.heap.size) (e : TypeId) (s : ByteArray) : Below B a (Lib.bytesWorld W e s) :=
  h.trans ⟨rfl, rfl, rfl, by rw [Lib.bytesWorld_size]; omega, fun k hk => Lib.bytesWorld_at_old W e s k (by omega)⟩
theorem bytes_of {l : List Int} (h : l.all (fun x => (Lit.int .u8 x).wf) = true) : Bytes l := fun x hx => List.all_eq_true.1 h x hx
/-- The sum of a string's bytes, laid in a new row. -/
theorem sum_str (s : ByteArray) (xs : List Int) (c : Int) (W : World) (b n cap : Nat) (hbb : b = W.heap.size) (hn : n = s.size) (hcap : n ≤ cap) (hxs : s.data.toList.map (fun b => (b.toNat : Int)) = xs) (hb : xs.length ≤ 1000) (h : crcs_Sum.f 80 xs = some c) :
    Calls Try.prog 8 #[.slice (some ⟨b, 0, none⟩) n cap] (Lib.bytesWorld W 5 s) fun e w' => e = .returned (.int .u32 c) ∧ ∃ nd, w' = (Lib.bytesWorld W 5 s).drewN nd := by
  subst hxs hbb
  obtain rfl : n = (s.data.toList.map (fun b => (b.toNat : Int))).length := by rw [hn]; simp
  refine (crcs_Sum.calls 80 _ _ _ c _ ?_ hcap h).mono ?_
  · refine Kd.C_of_reads (d := (0 : Int)) (h1 := fun _ => rfl) ⟨rfl, ?_, fun _ => ⟨_, rfl, fun j hj => ?_⟩⟩
    · omega
    · rw [add_plain, Lib.bytesWorld_cell W 5 s j (by simpa using hj)]
      simp only [List.length_map] at hj
      rw [List.getD_eq_getElem?_getD, List.getD_eq_getElem?_getD, List.getElem?_map, List.getElem?_eq_getElem hj]
      rfl
  · rintro e w' ⟨rfl, ⟨nd, rfl⟩⟩
    exact ⟨rfl, nd, rfl⟩

set_option maxHeartbeats 800000 in
set_option maxRecDepth 100000 in
theorem forms_0 (which : Int) (w : World) (hj : Int.tmod (Go.bits .and .i64 which 255) 8 = 0) :
    Calls Try.prog 3 #[.int .i64 which] w fun e w' => e = .returned (.bool true) ∧ Below w.heap.size w w' := by
  have A1 := Aside0.mk (crcs_sum_f [] (bytes_of (by decide +kernel)) (by decide) 80 (by decide))
  rw [show Crc.sm (List.map Int.toNat []) = 0 from by decide +kernel] at A1
  have A1 : Aside0 (crcs_Sum.f 80 [] = some 0) := A1
  have E1 := Aside0.mk (show (⟨#[]⟩ : ByteArray).data.toList.map (fun b => (b.toNat : Int)) = [] from by decide)
  have L1 := Aside0.mk (show ([] : List Int).length ≤ 1000 from by decide)
  have kc := fun (w : World) (s : ByteArray) => Lib.run_convert_string_bytes (P := Try.prog) w 9 26 5 s Try.underlying9 Try.underlying26 Try.underlying5
  go_enter Try.func3, Try.ntmps3
  go_wp2_with fail
  have h0 : ((w.alloc (.cells #[.string ⟨#[]⟩, .int .u32 0, .string ⟨#[97]⟩, .int .u32 3904355907, .string ⟨#[97, 98, 99]⟩, .int .u32 891568578, .string ⟨#[49, 50, 51, 52, 53, 54, 55, 56, 57]⟩, .int .u32 3421780262, .string ⟨#[0]⟩, .int .u32 3523407757, .string ⟨#[0, 0, 0, 0]⟩, .int .u32 558161692, .string ⟨#[255, 255, 255, 255]⟩, .int .u32 4294967295, .string ⟨#[84, 104, 101, 32, 113, 117, 105, 99, 107, 32, 98, 114, 111, 119, 110, 32, 102, 111, 120, 32, 106, 117, 109, 112, 115, 32, 111, 118, 101, 114, 32, 116, 104, 101, 32, 108, 97, 122, 121, 32, 100, 111, 103]⟩, .int .u32 1095738169] 23)).alloc (.cells #[.string ⟨#[]⟩, .int .u32 0] 23)).cell? ⟨w.heap.size + 1, 0, none⟩ = some (.string ⟨#[]⟩) := by simp
  have h1 : ((w.alloc (.cells #[.string ⟨#[]⟩, .int .u32 0, .string ⟨#[97]⟩, .int .u32 3904355907, .string ⟨#[97, 98, 99]⟩, .int .u32 891568578, .string ⟨#[49, 50, 51, 52, 53, 54, 55, 56, 57]⟩, .int .u32 3421780262, .string ⟨#[0]⟩, .int .u32 3523407757, .string ⟨#[0, 0, 0, 0]⟩, .int .u32 558161692, .string ⟨#[255, 255, 255, 255]⟩, .int .u32 4294967295, .string ⟨#[84, 104, 101, 32, 113, 117, 105, 99, 107, 32, 98, 114, 111, 119, 110, 32, 102, 111, 120, 32, 106, 117, 109, 112, 115, 32, 111, 118, 101, 114, 32, 116, 104, 101, 32, 108, 97, 122, 121, 32, 100, 111, 103]⟩, .int .u32 1095738169] 23)).alloc (.cells #[.string ⟨#[]⟩, .int .u32 0] 23)).cell? ⟨w.heap.size + 1, 1, none⟩ = some (.int .u32 0) := by simp
  have h2 : Below w.heap.size w ((w.alloc (.cells #[.string ⟨#[]⟩, .int .u32 0, .string ⟨#[97]⟩, .int .u32 3904355907, .string ⟨#[97, 98, 99]⟩, .int .u32 891568578, .string ⟨#[49, 50, 51, 52, 53, 54, 55, 56, 57]⟩, .int .u32 3421780262, .string ⟨#[0]⟩, .int .u32 3523407757, .string ⟨#[0, 0, 0, 0]⟩, .int .u32 558161692, .string ⟨#[255, 255, 255, 255]⟩, .int .u32 4294967295, .string ⟨#[84, 104, 101, 32, 113, 117, 105, 99, 107, 32, 98, 114, 111, 119, 110, 32, 102, 111, 120, 32, 106, 117, 109, 112, 115, 32, 111, 118, 101, 114, 32, 116, 104, 101, 32, 108, 97, 122, 121, 32, 100, 111, 103]⟩, .int .u32 1095738169] 23)).alloc (.cells #[.string ⟨#[]⟩, .int .u32 0] 23)) := below_alloc (below_alloc (Below.refl _ _) _) _
  have hsz : ((w.alloc (.cells #[.string ⟨#[]⟩, .int .u32 0, .string ⟨#[97]⟩, .int .u32 3904355907, .string ⟨#[97, 98, 99]⟩, .int .u32 891568578, .string ⟨#[49, 50, 51, 52, 53, 54, 55, 56, 57]⟩, .int .u32 3421780262, .string ⟨#[0]⟩, .int .u32 3523407757, .string ⟨#[0, 0, 0, 0]⟩, .int .u32 558161692, .string ⟨#[255, 255, 255, 255]⟩, .int .u32 4294967295, .string ⟨#[84, 104, 101, 32, 113, 117, 105, 99, 107, 32, 98, 114, 111, 119, 110, 32, 102, 111, 120, 32, 106, 117, 109, 112, 115, 32, 111, 118, 101, 114, 32, 116, 104, 101, 32, 108, 97, 122, 121, 32, 100, 111, 103]⟩, .int .u32 1095738169] 23)).alloc (.cells #[.string ⟨#[]⟩, .int .u32 0] 23)).heap.size = w.heap.size + 1 + 1 := by simp
  generalize (w.alloc (.cells #[.string ⟨#[]⟩, .int .u32 0, .string ⟨#[97]⟩, .int .u32 3904355907, .string ⟨#[97, 98, 99]⟩, .int .u32 891568578, .string ⟨#[49, 50, 51, 52, 53, 54, 55, 56, 57]⟩, .int .u32 3421780262, .string ⟨#[0]⟩, .int .u32 3523407757, .string ⟨#[0, 0, 0, 0]⟩, .int .u32 558161692, .string ⟨#[255, 255, 255, 255]⟩, .int .u32 4294967295, .string ⟨#[84, 104, 101, 32, 113, 117, 105, 99, 107, 32, 98, 114, 111, 119, 110, 32, 102, 111, 120, 32, 106, 117, 109, 112, 115, 32, 111, 118, 101, 114, 32, 116, 104, 101, 32, 108, 97, 122, 121, 32, 100, 111, 103]⟩, .int .u32 1095738169] 23)).alloc (.cells #[.string ⟨#[]⟩, .int .u32 0] 23) = W at h0 h1 h2 hsz ⊢
  have hszA := Aside0.mk hsz
  refine start_ (n := 11) (S := fun w' => w'.cell? ⟨w.heap.size + 1, 0, none⟩ = some (.string ⟨#[]⟩) ∧ w'.cell? ⟨w.heap.size + 1, 1, none⟩ = some (.int .u32 0) ∧ Below w.heap.size w w' ∧ w.heap.size + 1 < w'.heap.size) (ds := []) #[false, false, false, false, false, false, false, false, false, false, false] (by kernel_rfl) rfl rfl ⟨by simpa using h0, by simpa using h1, below_drew h2, by show _ < W.heap.size; omega⟩ (fun hHeld => ?_)
  refine pure_ (i := 0) (N := some 22) (v := ?_) (a' := ?_) #[true, false, false, false, false, false, false, false, false, false, false] rfl rfl (by kernel_rfl) (fun _ _ _ h => h) (Or.inl ⟨by rfl, ?_⟩) ?_ ?_
  rotate_left
  · intro w'
    go_simp
    with_reducible rfl
  rotate_left
  · simp only [Act.put, List.setIfInBounds_toArray, List.set_cons_zero, List.set_cons_succ, i64_w, i32_w]
    rfl
  refine take_ (i := 1) (N := some 23) (v := ?_) (a' := ?_) #[true, true, false, false, false, false, false, false, false, false, false] rfl rfl (by kernel_rfl) (fun _ _ _ h => h) (Or.inl ⟨by rfl, ?_⟩) hHeld ?_ ?_
  rotate_left
  · rintro w' ⟨s0, s1, s2, s3⟩
    go_simp
    with_reducible rfl
  rotate_left
  · simp only [Act.put, List.setIfInBounds_toArray, List.set_cons_zero, List.set_cons_succ, i64_w, i32_w]
    rfl
  refine pure_ (i := 4) (N := some 26) (v := ?_) (a' := ?_) #[true, true, false, false, true, false, false, false, false, false, false] rfl rfl (by kernel_rfl) (fun _ _ _ h => h) (Or.inl ⟨by rfl, ?_⟩) ?_ ?_
  rotate_left
  · intro w'
    go_simp
    with_reducible rfl
  rotate_left
  · simp only [Act.put, List.setIfInBounds_toArray, List.set_cons_zero, List.set_cons_succ, i64_w, i32_w]
    rfl
  refine take_ (i := 5) (N := some 27) (v := ?_) (a' := ?_) #[true, true, false, false, true, true, false, false, false, false, false] rfl rfl (by kernel_rfl) (fun _ _ _ h => h) (Or.inl ⟨by rfl, ?_⟩) hHeld ?_ ?_
  rotate_left
  · rintro w' ⟨s0, s1, s2, s3⟩
    go_simp
    with_reducible rfl
  rotate_left
  · simp only [Act.put, List.setIfInBounds_toArray, List.set_cons_zero, List.set_cons_succ, i64_w, i32_w]
    rfl
  refine one_ (i := 2) (N := some 24) #[true, true, true, false, true, true, false, false, false, false, false] rfl rfl (by kernel_rfl) (by decide) (fun K hK => ?_)
  refine value_ (w1 := ?_) (v := ?_) (by rfl) rfl ?_ ?_
  rotate_left 2
  · go_simp
    constructor
    · rfl
    · rfl
  refine hK.out _ _ ⟨(Lib.bytesWorld_old _ _ _ _ hHeld.2.2.2).trans hHeld.1, (Lib.bytesWorld_old _ _ _ _ hHeld.2.2.2).trans hHeld.2.1, Below.bytesWorld hHeld.2.2.1 (Nat.le_of_lt (Nat.lt_of_succ_lt hHeld.2.2.2)) _ _, by rw [Lib.bytesWorld_size]; have := hHeld.2.2.2; omega⟩ (fun hHeld => ?_)
  clear hK K
  refine norm_ (a' := ?_) ?_ ?_
  rotate_left
  · show Act.put _ (some 24) _ = _
    simp only [Act.put, List.setIfInBounds_toArray, List.set_cons_zero, List.set_cons_succ, i64_w, i32_w]
    rfl
  refine one_ (i := 3) (N := some 25) #[true, true, true, true, true, true, false, false, false, false, false] rfl rfl (by kernel_rfl) (by decide) (fun K hK => ?_)
  refine goes_ Try.func8 (by kernel_rfl) rfl #[.slice (some ⟨w.heap.size + 1 + 1, 0, none⟩) 0 (grownCap W.drew 0 0 5)] (by rfl) rfl rfl (by (try simp only [List.map_toArray, List.map_cons, List.map_nil]); first | done | rfl) ?_
  refine (sum_str ⟨#[]⟩ [] 0 W.drew (w.heap.size + 1 + 1) 0 (grownCap W.drew 0 0 5) ?h1 ?h2 ?h3 E1.out L1.out A1.out).mono ?_
  case h1 => exact hsz.symm
  case h2 => rfl
  case h3 => exact grownCap_ge _ _ _ _
  rintro e w' ⟨rfl, nd, rfl⟩
  refine ⟨_, rfl, ?_⟩
  refine hK.out _ _ ⟨by simpa using hHeld.1, by simpa using hHeld.2.1, pw_below_drewN hHeld.2.2.1 _, by simpa using hHeld.2.2.2⟩ (fun hHeld => ?_)
  clear hK K
  refine norm_ (a' := ?_) ?_ ?_
  rotate_left
  · show Act.put _ (some 25) _ = _
    simp only [Act.put, List.setIfInBounds_toArray, List.set_cons_zero, List.set_cons_succ, i64_w, i32_w]
    rfl
  refine pure_ (i := 6) (N := some 28) (v := ?_) (a' := ?_) #[true, true, true, true, true, true, true, false, false, false, false] rfl rfl (by kernel_rfl) (fun _ _ _ h => h) (Or.inl ⟨by rfl, ?_⟩) ?_ ?_
  rotate_left
  · intro w'
    go_simp
    with_reducible rfl
  rotate_left
  · simp only [Act.put, List.setIfInBounds_toArray, List.set_cons_zero, List.set_cons_succ, i64_w, i32_w]
    rfl
  refine pure_ (i := 7) (N := some 29) (v := ?_) (a' := ?_) #[true, true, true, true, true, true, true, true, false, false, false] rfl rfl (by kernel_rfl) (fun _ _ _ h => h) (Or.inl ⟨by rfl, ?_⟩) ?_ ?_
  rotate_left
  · intro w'
    go_simp
    with_reducible rfl
  rotate_left
  · simp only [Act.put, List.setIfInBounds_toArray, List.set_cons_zero, List.set_cons_succ, i64_w, i32_w]
    rfl
  refine one_ (i := 8) (N := some 30) #[true, true, true, true, true, true, true, true, true, false, false] rfl rfl (by kernel_rfl) (by decide) (fun K hK => ?_)
  refine goes_ Try.func9 (by kernel_rfl) rfl #[] (by rfl) rfl rfl (by (try simp only [List.map_toArray, List.map_cons, List.map_nil]); first | done | rfl) ?_
  refine (awake_calls _).mono ?_
  rintro e w' ⟨rfl, hb⟩
  refine ⟨_, rfl, ?_⟩
  refine hK.out _ _ ⟨(hb.cell hHeld.2.2.2).trans hHeld.1, (hb.cell hHeld.2.2.2).trans hHeld.2.1, below_then hHeld.2.2.1 (by have := hHeld.2.2.2; omega) hb, by have := hb.size; have := hHeld.2.2.2; omega⟩ (fun hHeld => ?_)
  clear hK K
  refine norm_ (a' := ?_) ?_ ?_
  rotate_left
  · show Act.put _ (some 30) _ = _
    simp only [Act.put, List.setIfInBounds_toArray, List.set_cons_zero, List.set_cons_succ, i64_w, i32_w]
    rfl
  refine pure_ (i := 9) (N := some 31) (v := ?_) (a' := ?_) #[true, true, true, true, true, true, true, true, true, true, false] rfl rfl (by kernel_rfl) (fun _ _ _ h => h) (Or.inl ⟨by rfl, ?_⟩) ?_ ?_
  rotate_left
  · intro w'
    go_simp
    with_reducible rfl
  rotate_left
  · simp only [Act.put, List.setIfInBounds_toArray, List.set_cons_zero, List.set_cons_succ, i64_w, i32_w]
    rfl
  refine pure_ (i := 10) (N := some 2) (v := ?_) (a' := ?_) #[true, true, true, true, true, true, true, true, true, true, true] rfl rfl (by kernel_rfl) (fun _ _ _ h => h) (Or.inl ⟨by rfl, ?_⟩) ?_ ?_
  rotate_left
  · intro w'
    go_simp
    with_reducible rfl
  rotate_left
  · simp only [Act.put, List.setIfInBounds_toArray, List.set_cons_zero, List.set_cons_succ, i64_w, i32_w]
    rfl
  refine done_ (by kernel_rfl) ?_
  go_wp2
  go_ret
  exact ⟨rfl, hHeld.2.2.1⟩

set_option maxHeartbeats 800000 in
set_option maxRecDepth 100000 in
theorem forms_1 (which : Int) (w : World) (hj : Int.tmod (Go.bits .and .i64 which 255) 8 = 1) :
    Calls Try.prog 3 #[.int .i64 which] w fun e w' => e = .returned (.bool true) ∧ Below w.heap.size w w' := by
  have A1 := Aside0.mk (crcs_sum_f [97] (bytes_of (by decide +kernel)) (by decide) 80 (by decide))
  rw [show Crc.sm (List.map Int.toNat [97]) = 3904355907 from by decide +kernel] at A1
  have A1 : Aside0 (crcs_Sum.f 80 [97] = some 3904355907) := A1
  have E1 := Aside0.mk (show (⟨#[97]⟩ : ByteArray).data.toList.map (fun b => (b.toNat : Int)) = [97] from by decide)
  have L1 := Aside0.mk (show ([97] : List Int).length ≤ 1000 from by decide)
  have kc := fun (w : World) (s : ByteArray) => Lib.run_convert_string_bytes (P := Try.prog) w 9 26 5 s Try.underlying9 Try.underlying26 Try.underlying5
  go_enter Try.func3, Try.ntmps3
  go_wp2_with fail
  have h0 : ((w.alloc (.cells #[.string ⟨#[]⟩, .int .u32 0, .string ⟨#[97]⟩, .int .u32 3904355907, .string ⟨#[97, 98, 99]⟩, .int .u32 891568578, .string ⟨#[49, 50, 51, 52, 53, 54, 55, 56, 57]⟩, .int .u32 3421780262, .string ⟨#[0]⟩, .int .u32 3523407757, .string ⟨#[0, 0, 0, 0]⟩, .int .u32 558161692, .string ⟨#[255, 255, 255, 255]⟩, .int .u32 4294967295, .string ⟨#[84, 104, 101, 32, 113, 117, 105, 99, 107, 32, 98, 114, 111, 119, 110, 32, 102, 111, 120, 32, 106, 117, 109, 112, 115, 32, 111, 118, 101, 114, 32, 116, 104, 101, 32, 108, 97, 122, 121, 32, 100, 111, 103]⟩, .int .u32 1095738169] 23)).alloc (.cells #[.string ⟨#[97]⟩, .int .u32 3904355907] 23)).cell? ⟨w.heap.size + 1, 0, none⟩ = some (.string ⟨#[97]⟩) := by simp
  have h1 : ((w.alloc (.cells #[.string ⟨#[]⟩, .int .u32 0, .string ⟨#[97]⟩, .int .u32 3904355907, .string ⟨#[97, 98, 99]⟩, .int .u32 891568578, .string ⟨#[49, 50, 51, 52, 53, 54, 55, 56, 57]⟩, .int .u32 3421780262, .string ⟨#[0]⟩, .int .u32 3523407757, .string ⟨#[0, 0, 0, 0]⟩, .int .u32 558161692, .string ⟨#[255, 255, 255, 255]⟩, .int .u32 4294967295, .string ⟨#[84, 104, 101, 32, 113, 117, 105, 99, 107, 32, 98, 114, 111, 119, 110, 32, 102, 111, 120, 32, 106, 117, 109, 112, 115, 32, 111, 118, 101, 114, 32, 116, 104, 101, 32, 108, 97, 122, 121, 32, 100, 111, 103]⟩, .int .u32 1095738169] 23)).alloc (.cells #[.string ⟨#[97]⟩, .int .u32 3904355907] 23)).cell? ⟨w.heap.size + 1, 1, none⟩ = some (.int .u32 3904355907) := by simp
  have h2 : Below w.heap.size w ((w.alloc (.cells #[.string ⟨#[]⟩, .int .u32 0, .string ⟨#[97]⟩, .int .u32 3904355907, .string ⟨#[97, 98, 99]⟩, .int .u32 891568578, .string ⟨#[49, 50, 51, 52, 53, 54, 55, 56, 57]⟩, .int .u32 3421780262, .string ⟨#[0]⟩, .int .u32 3523407757, .string ⟨#[0, 0, 0, 0]⟩, .int .u32 558161692, .string ⟨#[255, 255, 255, 255]⟩, .int .u32 4294967295, .string ⟨#[84, 104, 101, 32, 113, 117, 105, 99, 107, 32, 98, 114, 111, 119, 110, 32, 102, 111, 120, 32, 106, 117, 109, 112, 115, 32, 111, 118, 101, 114, 32, 116, 104, 101, 32, 108, 97, 122, 121, 32, 100, 111, 103]⟩, .int .u32 1095738169] 23)).alloc (.cells #[.string ⟨#[97]⟩, .int .u32 3904355907] 23)) := below_alloc (below_alloc (Below.refl _ _) _) _
  have hsz : ((w.alloc (.cells #[.string ⟨#[]⟩, .int .u32 0, .string ⟨#[97]⟩, .int .u32 3904355907, .string ⟨#[97, 98, 99]⟩, .int .u32 891568578, .string ⟨#[49, 50, 51, 52, 53, 54, 55, 56, 57]⟩, .int .u32 3421780262, .string ⟨#[0]⟩, .int .u32 3523407757, .string ⟨#[0, 0, 0, 0]⟩, .int .u32 558161692, .string ⟨#[255, 255, 255, 255]⟩, .int .u32 4294967295, .string ⟨#[84, 104, 101, 32, 113, 117, 105, 99, 107, 32, 98, 114, 111, 119, 110, 32, 102, 111, 120, 32, 106, 117, 109, 112, 115, 32, 111, 118, 101, 114, 32, 116, 104, 101, 32, 108, 97, 122, 121, 32, 100, 111, 103]⟩, .int .u32 1095738169] 23)).alloc (.cells #[.string ⟨#[97]⟩, .int .u32 3904355907] 23)).heap.size = w.heap.size + 1 + 1 := by simp
  generalize (w.alloc (.cells #[.string ⟨#[]⟩, .int .u32 0, .string ⟨#[97]⟩, .int .u32 3904355907, .string ⟨#[97, 98, 99]⟩, .int .u32 891568578, .string ⟨#[49, 50, 51, 52, 53, 54, 55, 56, 57]⟩, .int .u32 3421780262, .string ⟨#[0]⟩, .int .u32 3523407757, .string ⟨#[0, 0, 0, 0]⟩, .int .u32 558161692, .string ⟨#[255, 255, 255, 255]⟩, .int .u32 4294967295, .string ⟨#[84, 104, 101, 32, 113, 117, 105, 99, 107, 32, 98, 114, 111, 119, 110, 32, 102, 111, 120, 32, 106, 117, 109, 112, 115, 32, 111, 118, 101, 114, 32, 116, 104, 101, 32, 108, 97, 122, 121, 32, 100, 111, 103]⟩, .int .u32 1095738169] 23)).alloc (.cells #[.string ⟨#[97]⟩, .int .u32 3904355907] 23) = W at h0 h1 h2 hsz ⊢
  have hszA := Aside0.mk hsz
  refine start_ (n := 11) (S := fun w' => w'.cell? ⟨w.heap.size + 1, 0, none⟩ = some (.string ⟨#[97]⟩) ∧ w'.cell? ⟨w.heap.size + 1, 1, none⟩ = some (.int .u32 3904355907) ∧ Below w.heap.size w w' ∧ w.heap.size + 1 < w'.heap.size) (ds := []) #[false, false, false, false, false, false, false, false, false, false, false] (by kernel_rfl) rfl rfl ⟨by simpa using h0, by simpa using h1, below_drew h2, by show _ < W.heap.size; omega⟩ (fun hHeld => ?_)
  refine pure_ (i := 0) (N := some 22) (v := ?_) (a' := ?_) #[true, false, false, false, false, false, false, false, false, false, false] rfl rfl (by kernel_rfl) (fun _ _ _ h => h) (Or.inl ⟨by rfl, ?_⟩) ?_ ?_
  rotate_left
  · intro w'
    go_simp
    with_reducible rfl
  rotate_left
  · simp only [Act.put, List.setIfInBounds_toArray, List.set_cons_zero, List.set_cons_succ, i64_w, i32_w]
    rfl
  refine take_ (i := 1) (N := some 23) (v := ?_) (a' := ?_) #[true, true, false, false, false, false, false, false, false, false, false] rfl rfl (by kernel_rfl) (fun _ _ _ h => h) (Or.inl ⟨by rfl, ?_⟩) hHeld ?_ ?_
  rotate_left
  · rintro w' ⟨s0, s1, s2, s3⟩
    go_simp
    with_reducible rfl
  rotate_left
  · simp only [Act.put, List.setIfInBounds_toArray, List.set_cons_zero, List.set_cons_succ, i64_w, i32_w]
    rfl
  refine pure_ (i := 4) (N := some 26) (v := ?_) (a' := ?_) #[true, true, false, false, true, false, false, false, false, false, false] rfl rfl (by kernel_rfl) (fun _ _ _ h => h) (Or.inl ⟨by rfl, ?_⟩) ?_ ?_
  rotate_left
  · intro w'
    go_simp
    with_reducible rfl
  rotate_left
  · simp only [Act.put, List.setIfInBounds_toArray, List.set_cons_zero, List.set_cons_succ, i64_w, i32_w]
    rfl
  refine take_ (i := 5) (N := some 27) (v := ?_) (a' := ?_) #[true, true, false, false, true, true, false, false, false, false, false] rfl rfl (by kernel_rfl) (fun _ _ _ h => h) (Or.inl ⟨by rfl, ?_⟩) hHeld ?_ ?_
  rotate_left
  · rintro w' ⟨s0, s1, s2, s3⟩
    go_simp
    with_reducible rfl
  rotate_left
  · simp only [Act.put, List.setIfInBounds_toArray, List.set_cons_zero, List.set_cons_succ, i64_w, i32_w]
    rfl
  refine one_ (i := 2) (N := some 24) #[true, true, true, false, true, true, false, false, false, false, false] rfl rfl (by kernel_rfl) (by decide) (fun K hK => ?_)
  refine value_ (w1 := ?_) (v := ?_) (by rfl) rfl ?_ ?_
  rotate_left 2
  · go_simp
    constructor
    · rfl
    · rfl
  refine hK.out _ _ ⟨(Lib.bytesWorld_old _ _ _ _ hHeld.2.2.2).trans hHeld.1, (Lib.bytesWorld_old _ _ _ _ hHeld.2.2.2).trans hHeld.2.1, Below.bytesWorld hHeld.2.2.1 (Nat.le_of_lt (Nat.lt_of_succ_lt hHeld.2.2.2)) _ _, by rw [Lib.bytesWorld_size]; have := hHeld.2.2.2; omega⟩ (fun hHeld => ?_)
  clear hK K
  refine norm_ (a' := ?_) ?_ ?_
  rotate_left
  · show Act.put _ (some 24) _ = _
    simp only [Act.put, List.setIfInBounds_toArray, List.set_cons_zero, List.set_cons_succ, i64_w, i32_w]
    rfl
  refine one_ (i := 3) (N := some 25) #[true, true, true, true, true, true, false, false, false, false, false] rfl rfl (by kernel_rfl) (by decide) (fun K hK => ?_)
  refine goes_ Try.func8 (by kernel_rfl) rfl #[.slice (some ⟨w.heap.size + 1 + 1, 0, none⟩) 1 (grownCap W.drew 1 0 5)] (by rfl) rfl rfl (by (try simp only [List.map_toArray, List.map_cons, List.map_nil]); first | done | rfl) ?_
  refine (sum_str ⟨#[97]⟩ [97] 3904355907 W.drew (w.heap.size + 1 + 1) 1 (grownCap W.drew 1 0 5) ?h1 ?h2 ?h3 E1.out L1.out A1.out).mono ?_
  case h1 => exact hsz.symm
  case h2 => rfl
  case h3 => exact grownCap_ge _ _ _ _
  rintro e w' ⟨rfl, nd, rfl⟩
  refine ⟨_, rfl, ?_⟩
  refine hK.out _ _ ⟨by simpa using hHeld.1, by simpa using hHeld.2.1, pw_below_drewN hHeld.2.2.1 _, by simpa using hHeld.2.2.2⟩ (fun hHeld => ?_)
  clear hK K
  refine norm_ (a' := ?_) ?_ ?_
  rotate_left
  · show Act.put _ (some 25) _ = _
    simp only [Act.put, List.setIfInBounds_toArray, List.set_cons_zero, List.set_cons_succ, i64_w, i32_w]
    rfl
  refine pure_ (i := 6) (N := some 28) (v := ?_) (a' := ?_) #[true, true, true, true, true, true, true, false, false, false, false] rfl rfl (by kernel_rfl) (fun _ _ _ h => h) (Or.inl ⟨by rfl, ?_⟩) ?_ ?_
  rotate_left
  · intro w'
    go_simp
    with_reducible rfl
  rotate_left
  · simp only [Act.put, List.setIfInBounds_toArray, List.set_cons_zero, List.set_cons_succ, i64_w, i32_w]
    rfl
  refine pure_ (i := 7) (N := some 29) (v := ?_) (a' := ?_) #[true, true, true, true, true, true, true, true, false, false, false] rfl rfl (by kernel_rfl) (fun _ _ _ h => h) (Or.inl ⟨by rfl, ?_⟩) ?_ ?_
  rotate_left
  · intro w'
    go_simp
    with_reducible rfl
  rotate_left
  · simp only [Act.put, List.setIfInBounds_toArray, List.set_cons_zero, List.set_cons_succ, i64_w, i32_w]
    rfl
  refine one_ (i := 8) (N := some 30) #[true, true, true, true, true, true, true, true, true, false, false] rfl rfl (by kernel_rfl) (by decide) (fun K hK => ?_)
  refine goes_ Try.func9 (by kernel_rfl) rfl #[] (by rfl) rfl rfl (by (try simp only [List.map_toArray, List.map_cons, List.map_nil]); first | done | rfl) ?_
  refine (awake_calls _).mono ?_
  rintro e w' ⟨rfl, hb⟩
  refine ⟨_, rfl, ?_⟩
  refine hK.out _ _ ⟨(hb.cell hHeld.2.2.2).trans hHeld.1, (hb.cell hHeld.2.2.2).trans hHeld.2.1, below_then hHeld.2.2.1 (by have := hHeld.2.2.2; omega) hb, by have := hb.size; have := hHeld.2.2.2; omega⟩ (fun hHeld => ?_)
  clear hK K
  refine norm_ (a' := ?_) ?_ ?_
  rotate_left
  · show Act.put _ (some 30) _ = _
    simp only [Act.put, List.setIfInBounds_toArray, List.set_cons_zero, List.set_cons_succ, i64_w, i32_w]
    rfl
  refine pure_ (i := 9) (N := some 31) (v := ?_) (a' := ?_) #[true, true, true, true, true, true, true, true, true, true, false] rfl rfl (by kernel_rfl) (fun _ _ _ h => h) (Or.inl ⟨by rfl, ?_⟩) ?_ ?_
  rotate_left
  · intro w'
    go_simp
    with_reducible rfl
  rotate_left
  · simp only [Act.put, List.setIfInBounds_toArray, List.set_cons_zero, List.set_cons_succ, i64_w, i32_w]
    rfl
  refine pure_ (i := 10) (N := some 2) (v := ?_) (a' := ?_) #[true, true, true, true, true, true, true, true, true, true, true] rfl rfl (by kernel_rfl) (fun _ _ _ h => h) (Or.inl ⟨by rfl, ?_⟩) ?_ ?_
  rotate_left
  · intro w'
    go_simp
    with_reducible rfl
  rotate_left
  · simp only [Act.put, List.setIfInBounds_toArray, List.set_cons_zero, List.set_cons_succ, i64_w, i32_w]
    rfl
  refine done_ (by kernel_rfl) ?_
  go_wp2
  go_ret
  exact ⟨rfl, hHeld.2.2.1⟩

set_option maxHeartbeats 800000 in
set_option maxRecDepth 100000 in
theorem forms_2 (which : Int) (w : World) (hj : Int.tmod (Go.bits .and .i64 which 255) 8 = 2) :
    Calls Try.prog 3 #[.int .i64 which] w fun e w' => e = .returned (.bool true) ∧ Below w.heap.size w w' := by
  have A1 := Aside0.mk (crcs_sum_f [97, 98, 99] (bytes_of (by decide +kernel)) (by decide) 80 (by decide))
  rw [show Crc.sm (List.map Int.toNat [97, 98, 99]) = 891568578 from by decide +kernel] at A1
  have A1 : Aside0 (crcs_Sum.f 80 [97, 98, 99] = some 891568578) := A1
  have E1 := Aside0.mk (show (⟨#[97, 98, 99]⟩ : ByteArray).data.toList.map (fun b => (b.toNat : Int)) = [97, 98, 99] from by decide)
  have L1 := Aside0.mk (show ([97, 98, 99] : List Int).length ≤ 1000 from by decide)
  have kc := fun (w : World) (s : ByteArray) => Lib.run_convert_string_bytes (P := Try.prog) w 9 26 5 s Try.underlying9 Try.underlying26 Try.underlying5
  go_enter Try.func3, Try.ntmps3
  go_wp2_with fail
  have h0 : ((w.alloc (.cells #[.string ⟨#[]⟩, .int .u32 0, .string ⟨#[97]⟩, .int .u32 3904355907, .string ⟨#[97, 98, 99]⟩, .int .u32 891568578, .string ⟨#[49, 50, 51, 52, 53, 54, 55, 56, 57]⟩, .int .u32 3421780262, .string ⟨#[0]⟩, .int .u32 3523407757, .string ⟨#[0, 0, 0, 0]⟩, .int .u32 558161692, .string ⟨#[255, 255, 255, 255]⟩, .int .u32 4294967295, .string ⟨#[84, 104, 101, 32, 113, 117, 105, 99, 107, 32, 98, 114, 111, 119, 110, 32, 102, 111, 120, 32, 106, 117, 109, 112, 115, 32, 111, 118, 101, 114, 32, 116, 104, 101, 32, 108, 97, 122, 121, 32, 100, 111, 103]⟩, .int .u32 1095738169] 23)).alloc (.cells #[.string ⟨#[97, 98, 99]⟩, .int .u32 891568578] 23)).cell? ⟨w.heap.size + 1, 0, none⟩ = some (.string ⟨#[97, 98, 99]⟩) := by simp
  have h1 : ((w.alloc (.cells #[.string ⟨#[]⟩, .int .u32 0, .string ⟨#[97]⟩, .int .u32 3904355907, .string ⟨#[97, 98, 99]⟩, .int .u32 891568578, .string ⟨#[49, 50, 51, 52, 53, 54, 55, 56, 57]⟩, .int .u32 3421780262, .string ⟨#[0]⟩, .int .u32 3523407757, .string ⟨#[0, 0, 0, 0]⟩, .int .u32 558161692, .string ⟨#[255, 255, 255, 255]⟩, .int .u32 4294967295, .string ⟨#[84, 104, 101, 32, 113, 117, 105, 99, 107, 32, 98, 114, 111, 119, 110, 32, 102, 111, 120, 32, 106, 117, 109, 112, 115, 32, 111, 118, 101, 114, 32, 116, 104, 101, 32, 108, 97, 122, 121, 32, 100, 111, 103]⟩, .int .u32 1095738169] 23)).alloc (.cells #[.string ⟨#[97, 98, 99]⟩, .int .u32 891568578] 23)).cell? ⟨w.heap.size + 1, 1, none⟩ = some (.int .u32 891568578) := by simp
  have h2 : Below w.heap.size w ((w.alloc (.cells #[.string ⟨#[]⟩, .int .u32 0, .string ⟨#[97]⟩, .int .u32 3904355907, .string ⟨#[97, 98, 99]⟩, .int .u32 891568578, .string ⟨#[49, 50, 51, 52, 53, 54, 55, 56, 57]⟩, .int .u32 3421780262, .string ⟨#[0]⟩, .int .u32 3523407757, .string ⟨#[0, 0, 0, 0]⟩, .int .u32 558161692, .string ⟨#[255, 255, 255, 255]⟩, .int .u32 4294967295, .string ⟨#[84, 104, 101, 32, 113, 117, 105, 99, 107, 32, 98, 114, 111, 119, 110, 32, 102, 111, 120, 32, 106, 117, 109, 112, 115, 32, 111, 118, 101, 114, 32, 116, 104, 101, 32, 108, 97, 122, 121, 32, 100, 111, 103]⟩, .int .u32 1095738169] 23)).alloc (.cells #[.string ⟨#[97, 98, 99]⟩, .int .u32 891568578] 23)) := below_alloc (below_alloc (Below.refl _ _) _) _
  have hsz : ((w.alloc (.cells #[.string ⟨#[]⟩, .int .u32 0, .string ⟨#[97]⟩, .int .u32 3904355907, .string ⟨#[97, 98, 99]⟩, .int .u32 891568578, .string ⟨#[49, 50, 51, 52, 53, 54, 55, 56, 57]⟩, .int .u32 3421780262, .string ⟨#[0]⟩, .int .u32 3523407757, .string ⟨#[0, 0, 0, 0]⟩, .int .u32 558161692, .string ⟨#[255, 255, 255, 255]⟩, .int .u32 4294967295, .string ⟨#[84, 104, 101, 32, 113, 117, 105, 99, 107, 32, 98, 114, 111, 119, 110, 32, 102, 111, 120, 32, 106, 117, 109, 112, 115, 32, 111, 118, 101, 114, 32, 116, 104, 101, 32, 108, 97, 122, 121, 32, 100, 111, 103]⟩, .int .u32 1095738169] 23)).alloc (.cells #[.string ⟨#[97, 98, 99]⟩, .int .u32 891568578] 23)).heap.size = w.heap.size + 1 + 1 := by simp
  generalize (w.alloc (.cells #[.string ⟨#[]⟩, .int .u32 0, .string ⟨#[97]⟩, .int .u32 3904355907, .string ⟨#[97, 98, 99]⟩, .int .u32 891568578, .string ⟨#[49, 50, 51, 52, 53, 54, 55, 56, 57]⟩, .int .u32 3421780262, .string ⟨#[0]⟩, .int .u32 3523407757, .string ⟨#[0, 0, 0, 0]⟩, .int .u32 558161692, .string ⟨#[255, 255, 255, 255]⟩, .int .u32 4294967295, .string ⟨#[84, 104, 101, 32, 113, 117, 105, 99, 107, 32, 98, 114, 111, 119, 110, 32, 102, 111, 120, 32, 106, 117, 109, 112, 115, 32, 111, 118, 101, 114, 32, 116, 104, 101, 32, 108, 97, 122, 121, 32, 100, 111, 103]⟩, .int .u32 1095738169] 23)).alloc (.cells #[.string ⟨#[97, 98, 99]⟩, .int .u32 891568578] 23) = W at h0 h1 h2 hsz ⊢
  have hszA := Aside0.mk hsz
  refine start_ (n := 11) (S := fun w' => w'.cell? ⟨w.heap.size + 1, 0, none⟩ = some (.string ⟨#[97, 98, 99]⟩) ∧ w'.cell? ⟨w.heap.size + 1, 1, none⟩ = some (.int .u32 891568578) ∧ Below w.heap.size w w' ∧ w.heap.size + 1 < w'.heap.size) (ds := []) #[false, false, false, false, false, false, false, false, false, false, false] (by kernel_rfl) rfl rfl ⟨by simpa using h0, by simpa using h1, below_drew h2, by show _ < W.heap.size; omega⟩ (fun hHeld => ?_)
  refine pure_ (i := 0) (N := some 22) (v := ?_) (a' := ?_) #[true, false, false, false, false, false, false, false, false, false, false] rfl rfl (by kernel_rfl) (fun _ _ _ h => h) (Or.inl ⟨by rfl, ?_⟩) ?_ ?_
  rotate_left
  · intro w'
    go_simp
    with_reducible rfl
  rotate_left
  · simp only [Act.put, List.setIfInBounds_toArray, List.set_cons_zero, List.set_cons_succ, i64_w, i32_w]
    rfl
  refine take_ (i := 1) (N := some 23) (v := ?_) (a' := ?_) #[true, true, false, false, false, false, false, false, false, false, false] rfl rfl (by kernel_rfl) (fun _ _ _ h => h) (Or.inl ⟨by rfl, ?_⟩) hHeld ?_ ?_
  rotate_left
  · rintro w' ⟨s0, s1, s2, s3⟩
    go_simp
    with_reducible rfl
  rotate_left
  · simp only [Act.put, List.setIfInBounds_toArray, List.set_cons_zero, List.set_cons_succ, i64_w, i32_w]
    rfl
  refine pure_ (i := 4) (N := some 26) (v := ?_) (a' := ?_) #[true, true, false, false, true, false, false, false, false, false, false] rfl rfl (by kernel_rfl) (fun _ _ _ h => h) (Or.inl ⟨by rfl, ?_⟩) ?_ ?_
  rotate_left
  · intro w'
    go_simp
    with_reducible rfl
  rotate_left
  · simp only [Act.put, List.setIfInBounds_toArray, List.set_cons_zero, List.set_cons_succ, i64_w, i32_w]
    rfl
  refine take_ (i := 5) (N := some 27) (v := ?_) (a' := ?_) #[true, true, false, false, true, true, false, false, false, false, false] rfl rfl (by kernel_rfl) (fun _ _ _ h => h) (Or.inl ⟨by rfl, ?_⟩) hHeld ?_ ?_
  rotate_left
  · rintro w' ⟨s0, s1, s2, s3⟩
    go_simp
    with_reducible rfl
  rotate_left
  · simp only [Act.put, List.setIfInBounds_toArray, List.set_cons_zero, List.set_cons_succ, i64_w, i32_w]
    rfl
  refine one_ (i := 2) (N := some 24) #[true, true, true, false, true, true, false, false, false, false, false] rfl rfl (by kernel_rfl) (by decide) (fun K hK => ?_)
  refine value_ (w1 := ?_) (v := ?_) (by rfl) rfl ?_ ?_
  rotate_left 2
  · go_simp
    constructor
    · rfl
    · rfl
  refine hK.out _ _ ⟨(Lib.bytesWorld_old _ _ _ _ hHeld.2.2.2).trans hHeld.1, (Lib.bytesWorld_old _ _ _ _ hHeld.2.2.2).trans hHeld.2.1, Below.bytesWorld hHeld.2.2.1 (Nat.le_of_lt (Nat.lt_of_succ_lt hHeld.2.2.2)) _ _, by rw [Lib.bytesWorld_size]; have := hHeld.2.2.2; omega⟩ (fun hHeld => ?_)
  clear hK K
  refine norm_ (a' := ?_) ?_ ?_
  rotate_left
  · show Act.put _ (some 24) _ = _
    simp only [Act.put, List.setIfInBounds_toArray, List.set_cons_zero, List.set_cons_succ, i64_w, i32_w]
    rfl
  refine one_ (i := 3) (N := some 25) #[true, true, true, true, true, true, false, false, false, false, false] rfl rfl (by kernel_rfl) (by decide) (fun K hK => ?_)
  refine goes_ Try.func8 (by kernel_rfl) rfl #[.slice (some ⟨w.heap.size + 1 + 1, 0, none⟩) 3 (grownCap W.drew 3 0 5)] (by rfl) rfl rfl (by (try simp only [List.map_toArray, List.map_cons, List.map_nil]); first | done | rfl) ?_
  refine (sum_str ⟨#[97, 98, 99]⟩ [97, 98, 99] 891568578 W.drew (w.heap.size + 1 + 1) 3 (grownCap W.drew 3 0 5) ?h1 ?h2 ?h3 E1.out L1.out A1.out).mono ?_
  case h1 => exact hsz.symm
  case h2 => rfl
  case h3 => exact grownCap_ge _ _ _ _
  rintro e w' ⟨rfl, nd, rfl⟩
  refine ⟨_, rfl, ?_⟩
  refine hK.out _ _ ⟨by simpa using hHeld.1, by simpa using hHeld.2.1, pw_below_drewN hHeld.2.2.1 _, by simpa using hHeld.2.2.2⟩ (fun hHeld => ?_)
  clear hK K
  refine norm_ (a' := ?_) ?_ ?_
  rotate_left
  · show Act.put _ (some 25) _ = _
    simp only [Act.put, List.setIfInBounds_toArray, List.set_cons_zero, List.set_cons_succ, i64_w, i32_w]
    rfl
  refine pure_ (i := 6) (N := some 28) (v := ?_) (a' := ?_) #[true, true, true, true, true, true, true, false, false, false, false] rfl rfl (by kernel_rfl) (fun _ _ _ h => h) (Or.inl ⟨by rfl, ?_⟩) ?_ ?_
  rotate_left
  · intro w'
    go_simp
    with_reducible rfl
  rotate_left
  · simp only [Act.put, List.setIfInBounds_toArray, List.set_cons_zero, List.set_cons_succ, i64_w, i32_w]
    rfl
  refine pure_ (i := 7) (N := some 29) (v := ?_) (a' := ?_) #[true, true, true, true, true, true, true, true, false, false, false] rfl rfl (by kernel_rfl) (fun _ _ _ h => h) (Or.inl ⟨by rfl, ?_⟩) ?_ ?_
  rotate_left
  · intro w'
    go_simp
    with_reducible rfl
  rotate_left
  · simp only [Act.put, List.setIfInBounds_toArray, List.set_cons_zero, List.set_cons_succ, i64_w, i32_w]
    rfl
  refine one_ (i := 8) (N := some 30) #[true, true, true, true, true, true, true, true, true, false, false] rfl rfl (by kernel_rfl) (by decide) (fun K hK => ?_)
  refine goes_ Try.func9 (by kernel_rfl) rfl #[] (by rfl) rfl rfl (by (try simp only [List.map_toArray, List.map_cons, List.map_nil]); first | done | rfl) ?_
  refine (awake_calls _).mono ?_
  rintro e w' ⟨rfl, hb⟩
  refine ⟨_, rfl, ?_⟩
  refine hK.out _ _ ⟨(hb.cell hHeld.2.2.2).trans hHeld.1, (hb.cell hHeld.2.2.2).trans hHeld.2.1, below_then hHeld.2.2.1 (by have := hHeld.2.2.2; omega) hb, by have := hb.size; have := hHeld.2.2.2; omega⟩ (fun hHeld => ?_)
  clear hK K
  refine norm_ (a' := ?_) ?_ ?_
  rotate_left
  · show Act.put _ (some 30) _ = _
    simp only [Act.put, List.setIfInBounds_toArray, List.set_cons_zero, List.set_cons_succ, i64_w, i32_w]
    rfl
  refine pure_ (i := 9) (N := some 31) (v := ?_) (a' := ?_) #[true, true, true, true, true, true, true, true, true, true, false] rfl rfl (by kernel_rfl) (fun _ _ _ h => h) (Or.inl ⟨by rfl, ?_⟩) ?_ ?_
  rotate_left
  · intro w'
    go_simp
    with_reducible rfl
  rotate_left
  · simp only [Act.put, List.setIfInBounds_toArray, List.set_cons_zero, List.set_cons_succ, i64_w, i32_w]
    rfl
  refine pure_ (i := 10) (N := some 2) (v := ?_) (a' := ?_) #[true, true, true, true, true, true, true, true, true, true, true] rfl rfl (by kernel_rfl) (fun _ _ _ h => h) (Or.inl ⟨by rfl, ?_⟩) ?_ ?_
  rotate_left
  · intro w'
    go_simp
    with_reducible rfl
  rotate_left
  · simp only [Act.put, List.setIfInBounds_toArray, List.set_cons_zero, List.set_cons_succ, i64_w, i32_w]
    rfl
  refine done_ (by kernel_rfl) ?_
  go_wp2
  go_ret
  exact ⟨rfl, hHeld.2.2.1⟩

set_option maxHeartbeats 800000 in
set_option maxRecDepth 100000 in
theorem forms_3 (which : Int) (w : World) (hj : Int.tmod (Go.bits .and .i64 which 255) 8 = 3) :
    Calls Try.prog 3 #[.int .i64 which] w fun e w' => e = .returned (.bool true) ∧ Below w.heap.size w w' := by
  have A1 := Aside0.mk (crcs_sum_f [49, 50, 51, 52, 53, 54, 55, 56, 57] (bytes_of (by decide +kernel)) (by decide) 80 (by decide))
  rw [show Crc.sm (List.map Int.toNat [49, 50, 51, 52, 53, 54, 55, 56, 57]) = 3421780262 from by decide +kernel] at A1
  have A1 : Aside0 (crcs_Sum.f 80 [49, 50, 51, 52, 53, 54, 55, 56, 57] = some 3421780262) := A1
  have E1 := Aside0.mk (show (⟨#[49, 50, 51, 52, 53, 54, 55, 56, 57]⟩ : ByteArray).data.toList.map (fun b => (b.toNat : Int)) = [49, 50, 51, 52, 53, 54, 55, 56, 57] from by decide)
  have L1 := Aside0.mk (show ([49, 50, 51, 52, 53, 54, 55, 56, 57] : List Int).length ≤ 1000 from by decide)
  have kc := fun (w : World) (s : ByteArray) => Lib.run_convert_string_bytes (P := Try.prog) w 9 26 5 s Try.underlying9 Try.underlying26 Try.underlying5
  go_enter Try.func3, Try.ntmps3
  go_wp2_with fail
  have h0 : ((w.alloc (.cells #[.string ⟨#[]⟩, .int .u32 0, .string ⟨#[97]⟩, .int .u32 3904355907, .string ⟨#[97, 98, 99]⟩, .int .u32 891568578, .string ⟨#[49, 50, 51, 52, 53, 54, 55, 56, 57]⟩, .int .u32 3421780262, .string ⟨#[0]⟩, .int .u32 3523407757, .string ⟨#[0, 0, 0, 0]⟩, .int .u32 558161692, .string ⟨#[255, 255, 255, 255]⟩, .int .u32 4294967295, .string ⟨#[84, 104, 101, 32, 113, 117, 105, 99, 107, 32, 98, 114, 111, 119, 110, 32, 102, 111, 120, 32, 106, 117, 109, 112, 115, 32, 111, 118, 101, 114, 32, 116, 104, 101, 32, 108, 97, 122, 121, 32, 100, 111, 103]⟩, .int .u32 1095738169] 23)).alloc (.cells #[.string ⟨#[49, 50, 51, 52, 53, 54, 55, 56, 57]⟩, .int .u32 3421780262] 23)).cell? ⟨w.heap.size + 1, 0, none⟩ = some (.string ⟨#[49, 50, 51, 52, 53, 54, 55, 56, 57]⟩) := by simp
  have h1 : ((w.alloc (.cells #[.string ⟨#[]⟩, .int .u32 0, .string ⟨#[97]⟩, .int .u32 3904355907, .string ⟨#[97, 98, 99]⟩, .int .u32 891568578, .string ⟨#[49, 50, 51, 52, 53, 54, 55, 56, 57]⟩, .int .u32 3421780262, .string ⟨#[0]⟩, .int .u32 3523407757, .string ⟨#[0, 0, 0, 0]⟩, .int .u32 558161692, .string ⟨#[255, 255, 255, 255]⟩, .int .u32 4294967295, .string ⟨#[84, 104, 101, 32, 113, 117, 105, 99, 107, 32, 98, 114, 111, 119, 110, 32, 102, 111, 120, 32, 106, 117, 109, 112, 115, 32, 111, 118, 101, 114, 32, 116, 104, 101, 32, 108, 97, 122, 121, 32, 100, 111, 103]⟩, .int .u32 1095738169] 23)).alloc (.cells #[.string ⟨#[49, 50, 51, 52, 53, 54, 55, 56, 57]⟩, .int .u32 3421780262] 23)).cell? ⟨w.heap.size + 1, 1, none⟩ = some (.int .u32 3421780262) := by simp
  have h2 : Below w.heap.size w ((w.alloc (.cells #[.string ⟨#[]⟩, .int .u32 0, .string ⟨#[97]⟩, .int .u32 3904355907, .string ⟨#[97, 98, 99]⟩, .int .u32 891568578, .string ⟨#[49, 50, 51, 52, 53, 54, 55, 56, 57]⟩, .int .u32 3421780262, .string ⟨#[0]⟩, .int .u32 3523407757, .string ⟨#[0, 0, 0, 0]⟩, .int .u32 558161692, .string ⟨#[255, 255, 255, 255]⟩, .int .u32 4294967295, .string ⟨#[84, 104, 101, 32, 113, 117, 105, 99, 107, 32, 98, 114, 111, 119, 110, 32, 102, 111, 120, 32, 106, 117, 109, 112, 115, 32, 111, 118, 101, 114, 32, 116, 104, 101, 32, 108, 97, 122, 121, 32, 100, 111, 103]⟩, .int .u32 1095738169] 23)).alloc (.cells #[.string ⟨#[49, 50, 51, 52, 53, 54, 55, 56, 57]⟩, .int .u32 3421780262] 23)) := below_alloc (below_alloc (Below.refl _ _) _) _
  have hsz : ((w.alloc (.cells #[.string ⟨#[]⟩, .int .u32 0, .string ⟨#[97]⟩, .int .u32 3904355907, .string ⟨#[97, 98, 99]⟩, .int .u32 891568578, .string ⟨#[49, 50, 51, 52, 53, 54, 55, 56, 57]⟩, .int .u32 3421780262, .string ⟨#[0]⟩, .int .u32 3523407757, .string ⟨#[0, 0, 0, 0]⟩, .int .u32 558161692, .string ⟨#[255, 255, 255, 255]⟩, .int .u32 4294967295, .string ⟨#[84, 104, 101, 32, 113, 117, 105, 99, 107, 32, 98, 114, 111, 119, 110, 32, 102, 111, 120, 32, 106, 117, 109, 112, 115, 32, 111, 118, 101, 114, 32, 116, 104, 101, 32, 108, 97, 122, 121, 32, 100, 111, 103]⟩, .int .u32 1095738169] 23)).alloc (.cells #[.string ⟨#[49, 50, 51, 52, 53, 54, 55, 56, 57]⟩, .int .u32 3421780262] 23)).heap.size = w.heap.size + 1 + 1 := by simp
  generalize (w.alloc (.cells #[.string ⟨#[]⟩, .int .u32 0, .string ⟨#[97]⟩, .int .u32 3904355907, .string ⟨#[97, 98, 99]⟩, .int .u32 891568578, .string ⟨#[49, 50, 51, 52, 53, 54, 55, 56, 57]⟩, .int .u32 3421780262, .string ⟨#[0]⟩, .int .u32 3523407757, .string ⟨#[0, 0, 0, 0]⟩, .int .u32 558161692, .string ⟨#[255, 255, 255, 255]⟩, .int .u32 4294967295, .string ⟨#[84, 104, 101, 32, 113, 117, 105, 99, 107, 32, 98, 114, 111, 119, 110, 32, 102, 111, 120, 32, 106, 117, 109, 112, 115, 32, 111, 118, 101, 114, 32, 116, 104, 101, 32, 108, 97, 122, 121, 32, 100, 111, 103]⟩, .int .u32 1095738169] 23)).alloc (.cells #[.string ⟨#[49, 50, 51, 52, 53, 54, 55, 56, 57]⟩, .int .u32 3421780262] 23) = W at h0 h1 h2 hsz ⊢
  have hszA := Aside0.mk hsz
  refine start_ (n := 11) (S := fun w' => w'.cell? ⟨w.heap.size + 1, 0, none⟩ = some (.string ⟨#[49, 50, 51, 52, 53, 54, 55, 56, 57]⟩) ∧ w'.cell? ⟨w.heap.size + 1, 1, none⟩ = some (.int .u32 3421780262) ∧ Below w.heap.size w w' ∧ w.heap.size + 1 < w'.heap.size) (ds := []) #[false, false, false, false, false, false, false, false, false, false, false] (by kernel_rfl) rfl rfl ⟨by simpa using h0, by simpa using h1, below_drew h2, by show _ < W.heap.size; omega⟩ (fun hHeld => ?_)
  refine pure_ (i := 0) (N := some 22) (v := ?_) (a' := ?_) #[true, false, false, false, false, false, false, false, false, false, false] rfl rfl (by kernel_rfl) (fun _ _ _ h => h) (Or.inl ⟨by rfl, ?_⟩) ?_ ?_
  rotate_left
  · intro w'
    go_simp
    with_reducible rfl
  rotate_left
  · simp only [Act.put, List.setIfInBounds_toArray, List.set_cons_zero, List.set_cons_succ, i64_w, i32_w]
    rfl
  refine take_ (i := 1) (N := some 23) (v := ?_) (a' := ?_) #[true, true, false, false, false, false, false, false, false, false, false] rfl rfl (by kernel_rfl) (fun _ _ _ h => h) (Or.inl ⟨by rfl, ?_⟩) hHeld ?_ ?_
  rotate_left
  · rintro w' ⟨s0, s1, s2, s3⟩
    go_simp
    with_reducible rfl
  rotate_left
  · simp only [Act.put, List.setIfInBounds_toArray, List.set_cons_zero, List.set_cons_succ, i64_w, i32_w]
    rfl
  refine pure_ (i := 4) (N := some 26) (v := ?_) (a' := ?_) #[true, true, false, false, true, false, false, false, false, false, false] rfl rfl (by kernel_rfl) (fun _ _ _ h => h) (Or.inl ⟨by rfl, ?_⟩) ?_ ?_
  rotate_left
  · intro w'
    go_simp
    with_reducible rfl
  rotate_left
  · simp only [Act.put, List.setIfInBounds_toArray, List.set_cons_zero, List.set_cons_succ, i64_w, i32_w]
    rfl
  refine take_ (i := 5) (N := some 27) (v := ?_) (a' := ?_) #[true, true, false, false, true, true, false, false, false, false, false] rfl rfl (by kernel_rfl) (fun _ _ _ h => h) (Or.inl ⟨by rfl, ?_⟩) hHeld ?_ ?_
  rotate_left
  · rintro w' ⟨s0, s1, s2, s3⟩
    go_simp
    with_reducible rfl
  rotate_left
  · simp only [Act.put, List.setIfInBounds_toArray, List.set_cons_zero, List.set_cons_succ, i64_w, i32_w]
    rfl
  refine one_ (i := 2) (N := some 24) #[true, true, true, false, true, true, false, false, false, false, false] rfl rfl (by kernel_rfl) (by decide) (fun K hK => ?_)
  refine value_ (w1 := ?_) (v := ?_) (by rfl) rfl ?_ ?_
  rotate_left 2
  · go_simp
    constructor
    · rfl
    · rfl
  refine hK.out _ _ ⟨(Lib.bytesWorld_old _ _ _ _ hHeld.2.2.2).trans hHeld.1, (Lib.bytesWorld_old _ _ _ _ hHeld.2.2.2).trans hHeld.2.1, Below.bytesWorld hHeld.2.2.1 (Nat.le_of_lt (Nat.lt_of_succ_lt hHeld.2.2.2)) _ _, by rw [Lib.bytesWorld_size]; have := hHeld.2.2.2; omega⟩ (fun hHeld => ?_)
  clear hK K
  refine norm_ (a' := ?_) ?_ ?_
  rotate_left
  · show Act.put _ (some 24) _ = _
    simp only [Act.put, List.setIfInBounds_toArray, List.set_cons_zero, List.set_cons_succ, i64_w, i32_w]
    rfl
  refine one_ (i := 3) (N := some 25) #[true, true, true, true, true, true, false, false, false, false, false] rfl rfl (by kernel_rfl) (by decide) (fun K hK => ?_)
  refine goes_ Try.func8 (by kernel_rfl) rfl #[.slice (some ⟨w.heap.size + 1 + 1, 0, none⟩) 9 (grownCap W.drew 9 0 5)] (by rfl) rfl rfl (by (try simp only [List.map_toArray, List.map_cons, List.map_nil]); first | done | rfl) ?_
  refine (sum_str ⟨#[49, 50, 51, 52, 53, 54, 55, 56, 57]⟩ [49, 50, 51, 52, 53, 54, 55, 56, 57] 3421780262 W.drew (w.heap.size + 1 + 1) 9 (grownCap W.drew 9 0 5) ?h1 ?h2 ?h3 E1.out L1.out A1.out).mono ?_
  case h1 => exact hsz.symm
  case h2 => rfl
  case h3 => exact grownCap_ge _ _ _ _
  rintro e w' ⟨rfl, nd, rfl⟩
  refine ⟨_, rfl, ?_⟩
  refine hK.out _ _ ⟨by simpa using hHeld.1, by simpa using hHeld.2.1, pw_below_drewN hHeld.2.2.1 _, by simpa using hHeld.2.2.2⟩ (fun hHeld => ?_)
  clear hK K
  refine norm_ (a' := ?_) ?_ ?_
  rotate_left
  · show Act.put _ (some 25) _ = _
    simp only [Act.put, List.setIfInBounds_toArray, List.set_cons_zero, List.set_cons_succ, i64_w, i32_w]
    rfl
  refine pure_ (i := 6) (N := some 28) (v := ?_) (a' := ?_) #[true, true, true, true, true, true, true, false, false, false, false] rfl rfl (by kernel_rfl) (fun _ _ _ h => h) (Or.inl ⟨by rfl, ?_⟩) ?_ ?_
  rotate_left
  · intro w'
    go_simp
    with_reducible rfl
  rotate_left
  · simp only [Act.put, List.setIfInBounds_toArray, List.set_cons_zero, List.set_cons_succ, i64_w, i32_w]
    rfl
  refine pure_ (i := 7) (N := some 29) (v := ?_) (a' := ?_) #[true, true, true, true, true, true, true, true, false, false, false] rfl rfl (by kernel_rfl) (fun _ _ _ h => h) (Or.inl ⟨by rfl, ?_⟩) ?_ ?_
  rotate_left
  · intro w'
    go_simp
    with_reducible rfl
  rotate_left
  · simp only [Act.put, List.setIfInBounds_toArray, List.set_cons_zero, List.set_cons_succ, i64_w, i32_w]
    rfl
  refine one_ (i := 8) (N := some 30) #[true, true, true, true, true, true, true, true, true, false, false] rfl rfl (by kernel_rfl) (by decide) (fun K hK => ?_)
  refine goes_ Try.func9 (by kernel_rfl) rfl #[] (by rfl) rfl rfl (by (try simp only [List.map_toArray, List.map_cons, List.map_nil]); first | done | rfl) ?_
  refine (awake_calls _).mono ?_
  rintro e w' ⟨rfl, hb⟩
  refine ⟨_, rfl, ?_⟩
  refine hK.out _ _ ⟨(hb.cell hHeld.2.2.2).trans hHeld.1, (hb.cell hHeld.2.2.2).trans hHeld.2.1, below_then hHeld.2.2.1 (by have := hHeld.2.2.2; omega) hb, by have := hb.size; have := hHeld.2.2.2; omega⟩ (fun hHeld => ?_)
  clear hK K
  refine norm_ (a' := ?_) ?_ ?_
  rotate_left
  · show Act.put _ (some 30) _ = _
    simp only [Act.put, List.setIfInBounds_toArray, List.set_cons_zero, List.set_cons_succ, i64_w, i32_w]
    rfl
  refine pure_ (i := 9) (N := some 31) (v := ?_) (a' := ?_) #[true, true, true, true, true, true, true, true, true, true, false] rfl rfl (by kernel_rfl) (fun _ _ _ h => h) (Or.inl ⟨by rfl, ?_⟩) ?_ ?_
  rotate_left
  · intro w'
    go_simp
    with_reducible rfl
  rotate_left
  · simp only [Act.put, List.setIfInBounds_toArray, List.set_cons_zero, List.set_cons_succ, i64_w, i32_w]
    rfl
  refine pure_ (i := 10) (N := some 2) (v := ?_) (a' := ?_) #[true, true, true, true, true, true, true, true, true, true, true] rfl rfl (by kernel_rfl) (fun _ _ _ h => h) (Or.inl ⟨by rfl, ?_⟩) ?_ ?_
  rotate_left
  · intro w'
    go_simp
    with_reducible rfl
  rotate_left
  · simp only [Act.put, List.setIfInBounds_toArray, List.set_cons_zero, List.set_cons_succ, i64_w, i32_w]
    rfl
  refine done_ (by kernel_rfl) ?_
  go_wp2
  go_ret
  exact ⟨rfl, hHeld.2.2.1⟩

set_option maxHeartbeats 800000 in
set_option maxRecDepth 100000 in
theorem forms_4 (which : Int) (w : World) (hj : Int.tmod (Go.bits .and .i64 which 255) 8 = 4) :
    Calls Try.prog 3 #[.int .i64 which] w fun e w' => e = .returned (.bool true) ∧ Below w.heap.size w w' := by
  have A1 := Aside0.mk (crcs_sum_f [0] (bytes_of (by decide +kernel)) (by decide) 80 (by decide))
  rw [show Crc.sm (List.map Int.toNat [0]) = 3523407757 from by decide +kernel] at A1
  have A1 : Aside0 (crcs_Sum.f 80 [0] = some 3523407757) := A1
  have E1 := Aside0.mk (show (⟨#[0]⟩ : ByteArray).data.toList.map (fun b => (b.toNat : Int)) = [0] from by decide)
  have L1 := Aside0.mk (show ([0] : List Int).length ≤ 1000 from by decide)
  have kc := fun (w : World) (s : ByteArray) => Lib.run_convert_string_bytes (P := Try.prog) w 9 26 5 s Try.underlying9 Try.underlying26 Try.underlying5
  go_enter Try.func3, Try.ntmps3
  go_wp2_with fail
  have h0 : ((w.alloc (.cells #[.string ⟨#[]⟩, .int .u32 0, .string ⟨#[97]⟩, .int .u32 3904355907, .string ⟨#[97, 98, 99]⟩, .int .u32 891568578, .string ⟨#[49, 50, 51, 52, 53, 54, 55, 56, 57]⟩, .int .u32 3421780262, .string ⟨#[0]⟩, .int .u32 3523407757, .string ⟨#[0, 0, 0, 0]⟩, .int .u32 558161692, .string ⟨#[255, 255, 255, 255]⟩, .int .u32 4294967295, .string ⟨#[84, 104, 101, 32, 113, 117, 105, 99, 107, 32, 98, 114, 111, 119, 110, 32, 102, 111, 120, 32, 106, 117, 109, 112, 115, 32, 111, 118, 101, 114, 32, 116, 104, 101, 32, 108, 97, 122, 121, 32, 100, 111, 103]⟩, .int .u32 1095738169] 23)).alloc (.cells #[.string ⟨#[0]⟩, .int .u32 3523407757] 23)).cell? ⟨w.heap.size + 1, 0, none⟩ = some (.string ⟨#[0]⟩) := by simp
  have h1 : ((w.alloc (.cells #[.string ⟨#[]⟩, .int .u32 0, .string ⟨#[97]⟩, .int .u32 3904355907, .string ⟨#[97, 98, 99]⟩, .int .u32 891568578, .string ⟨#[49, 50, 51, 52, 53, 54, 55, 56, 57]⟩, .int .u32 3421780262, .string ⟨#[0]⟩, .int .u32 3523407757, .string ⟨#[0, 0, 0, 0]⟩, .int .u32 558161692, .string ⟨#[255, 255, 255, 255]⟩, .int .u32 4294967295, .string ⟨#[84, 104, 101, 32, 113, 117, 105, 99, 107, 32, 98, 114, 111, 119, 110, 32, 102, 111, 120, 32, 106, 117, 109, 112, 115, 32, 111, 118, 101, 114, 32, 116, 104, 101, 32, 108, 97, 122, 121, 32, 100, 111, 103]⟩, .int .u32 1095738169] 23)).alloc (.cells #[.string ⟨#[0]⟩, .int .u32 3523407757] 23)).cell? ⟨w.heap.size + 1, 1, none⟩ = some (.int .u32 3523407757) := by simp
  have h2 : Below w.heap.size w ((w.alloc (.cells #[.string ⟨#[]⟩, .int .u32 0, .string ⟨#[97]⟩, .int .u32 3904355907, .string ⟨#[97, 98, 99]⟩, .int .u32 891568578, .string ⟨#[49, 50, 51, 52, 53, 54, 55, 56, 57]⟩, .int .u32 3421780262, .string ⟨#[0]⟩, .int .u32 3523407757, .string ⟨#[0, 0, 0, 0]⟩, .int .u32 558161692, .string ⟨#[255, 255, 255, 255]⟩, .int .u32 4294967295, .string ⟨#[84, 104, 101, 32, 113, 117, 105, 99, 107, 32, 98, 114, 111, 119, 110, 32, 102, 111, 120, 32, 106, 117, 109, 112, 115, 32, 111, 118, 101, 114, 32, 116, 104, 101, 32, 108, 97, 122, 121, 32, 100, 111, 103]⟩, .int .u32 1095738169] 23)).alloc (.cells #[.string ⟨#[0]⟩, .int .u32 3523407757] 23)) := below_alloc (below_alloc (Below.refl _ _) _) _
  have hsz : ((w.alloc (.cells #[.string ⟨#[]⟩, .int .u32 0, .string ⟨#[97]⟩, .int .u32 3904355907, .string ⟨#[97, 98, 99]⟩, .int .u32 891568578, .string ⟨#[49, 50, 51, 52, 53, 54, 55, 56, 57]⟩, .int .u32 3421780262, .string ⟨#[0]⟩, .int .u32 3523407757, .string ⟨#[0, 0, 0, 0]⟩, .int .u32 558161692, .string ⟨#[255, 255, 255, 255]⟩, .int .u32 4294967295, .string ⟨#[84, 104, 101, 32, 113, 117, 105, 99, 107, 32, 98, 114, 111, 119, 110, 32, 102, 111, 120, 32, 106, 117, 109, 112, 115, 32, 111, 118, 101, 114, 32, 116, 104, 101, 32, 108, 97, 122, 121, 32, 100, 111, 103]⟩, .int .u32 1095738169] 23)).alloc (.cells #[.string ⟨#[0]⟩, .int .u32 3523407757] 23)).heap.size = w.heap.size + 1 + 1 := by simp
  generalize (w.alloc (.cells #[.string ⟨#[]⟩, .int .u32 0, .string ⟨#[97]⟩, .int .u32 3904355907, .string ⟨#[97, 98, 99]⟩, .int .u32 891568578, .string ⟨#[49, 50, 51, 52, 53, 54, 55, 56, 57]⟩, .int .u32 3421780262, .string ⟨#[0]⟩, .int .u32 3523407757, .string ⟨#[0, 0, 0, 0]⟩, .int .u32 558161692, .string ⟨#[255, 255, 255, 255]⟩, .int .u32 4294967295, .string ⟨#[84, 104, 101, 32, 113, 117, 105, 99, 107, 32, 98, 114, 111, 119, 110, 32, 102, 111, 120, 32, 106, 117, 109, 112, 115, 32, 111, 118, 101, 114, 32, 116, 104, 101, 32, 108, 97, 122, 121, 32, 100, 111, 103]⟩, .int .u32 1095738169] 23)).alloc (.cells #[.string ⟨#[0]⟩, .int .u32 3523407757] 23) = W at h0 h1 h2 hsz ⊢
  have hszA := Aside0.mk hsz
  refine start_ (n := 11) (S := fun w' => w'.cell? ⟨w.heap.size + 1, 0, none⟩ = some (.string ⟨#[0]⟩) ∧ w'.cell? ⟨w.heap.size + 1, 1, none⟩ = some (.int .u32 3523407757) ∧ Below w.heap.size w w' ∧ w.heap.size + 1 < w'.heap.size) (ds := []) #[false, false, false, false, false, false, false, false, false, false, false] (by kernel_rfl) rfl rfl ⟨by simpa using h0, by simpa using h1, below_drew h2, by show _ < W.heap.size; omega⟩ (fun hHeld => ?_)
  refine pure_ (i := 0) (N := some 22) (v := ?_) (a' := ?_) #[true, false, false, false, false, false, false, false, false, false, false] rfl rfl (by kernel_rfl) (fun _ _ _ h => h) (Or.inl ⟨by rfl, ?_⟩) ?_ ?_
  rotate_left
  · intro w'
    go_simp
    with_reducible rfl
  rotate_left
  · simp only [Act.put, List.setIfInBounds_toArray, List.set_cons_zero, List.set_cons_succ, i64_w, i32_w]
    rfl
  refine take_ (i := 1) (N := some 23) (v := ?_) (a' := ?_) #[true, true, false, false, false, false, false, false, false, false, false] rfl rfl (by kernel_rfl) (fun _ _ _ h => h) (Or.inl ⟨by rfl, ?_⟩) hHeld ?_ ?_
  rotate_left
  · rintro w' ⟨s0, s1, s2, s3⟩
    go_simp
    with_reducible rfl
  rotate_left
  · simp only [Act.put, List.setIfInBounds_toArray, List.set_cons_zero, List.set_cons_succ, i64_w, i32_w]
    rfl
  refine pure_ (i := 4) (N := some 26) (v := ?_) (a' := ?_) #[true, true, false, false, true, false, false, false, false, false, false] rfl rfl (by kernel_rfl) (fun _ _ _ h => h) (Or.inl ⟨by rfl, ?_⟩) ?_ ?_
  rotate_left
  · intro w'
    go_simp
    with_reducible rfl
  rotate_left
  · simp only [Act.put, List.setIfInBounds_toArray, List.set_cons_zero, List.set_cons_succ, i64_w, i32_w]
    rfl
  refine take_ (i := 5) (N := some 27) (v := ?_) (a' := ?_) #[true, true, false, false, true, true, false, false, false, false, false] rfl rfl (by kernel_rfl) (fun _ _ _ h => h) (Or.inl ⟨by rfl, ?_⟩) hHeld ?_ ?_
  rotate_left
  · rintro w' ⟨s0, s1, s2, s3⟩
    go_simp
    with_reducible rfl
  rotate_left
  · simp only [Act.put, List.setIfInBounds_toArray, List.set_cons_zero, List.set_cons_succ, i64_w, i32_w]
    rfl
  refine one_ (i := 2) (N := some 24) #[true, true, true, false, true, true, false, false, false, false, false] rfl rfl (by kernel_rfl) (by decide) (fun K hK => ?_)
  refine value_ (w1 := ?_) (v := ?_) (by rfl) rfl ?_ ?_
  rotate_left 2
  · go_simp
    constructor
    · rfl
    · rfl
  refine hK.out _ _ ⟨(Lib.bytesWorld_old _ _ _ _ hHeld.2.2.2).trans hHeld.1, (Lib.bytesWorld_old _ _ _ _ hHeld.2.2.2).trans hHeld.2.1, Below.bytesWorld hHeld.2.2.1 (Nat.le_of_lt (Nat.lt_of_succ_lt hHeld.2.2.2)) _ _, by rw [Lib.bytesWorld_size]; have := hHeld.2.2.2; omega⟩ (fun hHeld => ?_)
  clear hK K
  refine norm_ (a' := ?_) ?_ ?_
  rotate_left
  · show Act.put _ (some 24) _ = _
    simp only [Act.put, List.setIfInBounds_toArray, List.set_cons_zero, List.set_cons_succ, i64_w, i32_w]
    rfl
  refine one_ (i := 3) (N := some 25) #[true, true, true, true, true, true, false, false, false, false, false] rfl rfl (by kernel_rfl) (by decide) (fun K hK => ?_)
  refine goes_ Try.func8 (by kernel_rfl) rfl #[.slice (some ⟨w.heap.size + 1 + 1, 0, none⟩) 1 (grownCap W.drew 1 0 5)] (by rfl) rfl rfl (by (try simp only [List.map_toArray, List.map_cons, List.map_nil]); first | done | rfl) ?_
  refine (sum_str ⟨#[0]⟩ [0] 3523407757 W.drew (w.heap.size + 1 + 1) 1 (grownCap W.drew 1 0 5) ?h1 ?h2 ?h3 E1.out L1.out A1.out).mono ?_
  case h1 => exact hsz.symm
  case h2 => rfl
  case h3 => exact grownCap_ge _ _ _ _
  rintro e w' ⟨rfl, nd, rfl⟩
  refine ⟨_, rfl, ?_⟩
  refine hK.out _ _ ⟨by simpa using hHeld.1, by simpa using hHeld.2.1, pw_below_drewN hHeld.2.2.1 _, by simpa using hHeld.2.2.2⟩ (fun hHeld => ?_)
  clear hK K
  refine norm_ (a' := ?_) ?_ ?_
  rotate_left
  · show Act.put _ (some 25) _ = _
    simp only [Act.put, List.setIfInBounds_toArray, List.set_cons_zero, List.set_cons_succ, i64_w, i32_w]
    rfl
  refine pure_ (i := 6) (N := some 28) (v := ?_) (a' := ?_) #[true, true, true, true, true, true, true, false, false, false, false] rfl rfl (by kernel_rfl) (fun _ _ _ h => h) (Or.inl ⟨by rfl, ?_⟩) ?_ ?_
  rotate_left
  · intro w'
    go_simp
    with_reducible rfl
  rotate_left
  · simp only [Act.put, List.setIfInBounds_toArray, List.set_cons_zero, List.set_cons_succ, i64_w, i32_w]
    rfl
  refine pure_ (i := 7) (N := some 29) (v := ?_) (a' := ?_) #[true, true, true, true, true, true, true, true, false, false, false] rfl rfl (by kernel_rfl) (fun _ _ _ h => h) (Or.inl ⟨by rfl, ?_⟩) ?_ ?_
  rotate_left
  · intro w'
    go_simp
    with_reducible rfl
  rotate_left
  · simp only [Act.put, List.setIfInBounds_toArray, List.set_cons_zero, List.set_cons_succ, i64_w, i32_w]
    rfl
  refine one_ (i := 8) (N := some 30) #[true, true, true, true, true, true, true, true, true, false, false] rfl rfl (by kernel_rfl) (by decide) (fun K hK => ?_)
  refine goes_ Try.func9 (by kernel_rfl) rfl #[] (by rfl) rfl rfl (by (try simp only [List.map_toArray, List.map_cons, List.map_nil]); first | done | rfl) ?_
  refine (awake_calls _).mono ?_
  rintro e w' ⟨rfl, hb⟩
  refine ⟨_, rfl, ?_⟩
  refine hK.out _ _ ⟨(hb.cell hHeld.2.2.2).trans hHeld.1, (hb.cell hHeld.2.2.2).trans hHeld.2.1, below_then hHeld.2.2.1 (by have := hHeld.2.2.2; omega) hb, by have := hb.size; have := hHeld.2.2.2; omega⟩ (fun hHeld => ?_)
  clear hK K
  refine norm_ (a' := ?_) ?_ ?_
  rotate_left
  · show Act.put _ (some 30) _ = _
    simp only [Act.put, List.setIfInBounds_toArray, List.set_cons_zero, List.set_cons_succ, i64_w, i32_w]
    rfl
  refine pure_ (i := 9) (N := some 31) (v := ?_) (a' := ?_) #[true, true, true, true, true, true, true, true, true, true, false] rfl rfl (by kernel_rfl) (fun _ _ _ h => h) (Or.inl ⟨by rfl, ?_⟩) ?_ ?_
  rotate_left
  · intro w'
    go_simp
    with_reducible rfl
  rotate_left
  · simp only [Act.put, List.setIfInBounds_toArray, List.set_cons_zero, List.set_cons_succ, i64_w, i32_w]
    rfl
  refine pure_ (i := 10) (N := some 2) (v := ?_) (a' := ?_) #[true, true, true, true, true, true, true, true, true, true, true] rfl rfl (by kernel_rfl) (fun _ _ _ h => h) (Or.inl ⟨by rfl, ?_⟩) ?_ ?_
  rotate_left
  · intro w'
    go_simp
    with_reducible rfl
  rotate_left
  · simp only [Act.put, List.setIfInBounds_toArray, List.set_cons_zero, List.set_cons_succ, i64_w, i32_w]
    rfl
  refine done_ (by kernel_rfl) ?_
  go_wp2
  go_ret
  exact ⟨rfl, hHeld.2.2.1⟩

set_option maxHeartbeats 800000 in
set_option maxRecDepth 100000 in
theorem forms_5 (which : Int) (w : World) (hj : Int.tmod (Go.bits .and .i64 which 255) 8 = 5) :
    Calls Try.prog 3 #[.int .i64 which] w fun e w' => e = .returned (.bool true) ∧ Below w.heap.size w w' := by
  have A1 := Aside0.mk (crcs_sum_f [0, 0, 0, 0] (bytes_of (by decide +kernel)) (by decide) 80 (by decide))
  rw [show Crc.sm (List.map Int.toNat [0, 0, 0, 0]) = 558161692 from by decide +kernel] at A1
  have A1 : Aside0 (crcs_Sum.f 80 [0, 0, 0, 0] = some 558161692) := A1
  have E1 := Aside0.mk (show (⟨#[0, 0, 0, 0]⟩ : ByteArray).data.toList.map (fun b => (b.toNat : Int)) = [0, 0, 0, 0] from by decide)
  have L1 := Aside0.mk (show ([0, 0, 0, 0] : List Int).length ≤ 1000 from by decide)
  have kc := fun (w : World) (s : ByteArray) => Lib.run_convert_string_bytes (P := Try.prog) w 9 26 5 s Try.underlying9 Try.underlying26 Try.underlying5
  go_enter Try.func3, Try.ntmps3
  go_wp2_with fail
  have h0 : ((w.alloc (.cells #[.string ⟨#[]⟩, .int .u32 0, .string ⟨#[97]⟩, .int .u32 3904355907, .string ⟨#[97, 98, 99]⟩, .int .u32 891568578, .string ⟨#[49, 50, 51, 52, 53, 54, 55, 56, 57]⟩, .int .u32 3421780262, .string ⟨#[0]⟩, .int .u32 3523407757, .string ⟨#[0, 0, 0, 0]⟩, .int .u32 558161692, .string ⟨#[255, 255, 255, 255]⟩, .int .u32 4294967295, .string ⟨#[84, 104, 101, 32, 113, 117, 105, 99, 107, 32, 98, 114, 111, 119, 110, 32, 102, 111, 120, 32, 106, 117, 109, 112, 115, 32, 111, 118, 101, 114, 32, 116, 104, 101, 32, 108, 97, 122, 121, 32, 100, 111, 103]⟩, .int .u32 1095738169] 23)).alloc (.cells #[.string ⟨#[0, 0, 0, 0]⟩, .int .u32 558161692] 23)).cell? ⟨w.heap.size + 1, 0, none⟩ = some (.string ⟨#[0, 0, 0, 0]⟩) := by simp
  have h1 : ((w.alloc (.cells #[.string ⟨#[]⟩, .int .u32 0, .string ⟨#[97]⟩, .int .u32 3904355907, .string ⟨#[97, 98, 99]⟩, .int .u32 891568578, .string ⟨#[49, 50, 51, 52, 53, 54, 55, 56, 57]⟩, .int .u32 3421780262, .string ⟨#[0]⟩, .int .u32 3523407757, .string ⟨#[0, 0, 0, 0]⟩, .int .u32 558161692, .string ⟨#[255, 255, 255, 255]⟩, .int .u32 4294967295, .string ⟨#[84, 104, 101, 32, 113, 117, 105, 99, 107, 32, 98, 114, 111, 119, 110, 32, 102, 111, 120, 32, 106, 117, 109, 112, 115, 32, 111, 118, 101, 114, 32, 116, 104, 101, 32, 108, 97, 122, 121, 32, 100, 111, 103]⟩, .int .u32 1095738169] 23)).alloc (.cells #[.string ⟨#[0, 0, 0, 0]⟩, .int .u32 558161692] 23)).cell? ⟨w.heap.size + 1, 1, none⟩ = some (.int .u32 558161692) := by simp
  have h2 : Below w.heap.size w ((w.alloc (.cells #[.string ⟨#[]⟩, .int .u32 0, .string ⟨#[97]⟩, .int .u32 3904355907, .string ⟨#[97, 98, 99]⟩, .int .u32 891568578, .string ⟨#[49, 50, 51, 52, 53, 54, 55, 56, 57]⟩, .int .u32 3421780262, .string ⟨#[0]⟩, .int .u32 3523407757, .string ⟨#[0, 0, 0, 0]⟩, .int .u32 558161692, .string ⟨#[255, 255, 255, 255]⟩, .int .u32 4294967295, .string ⟨#[84, 104, 101, 32, 113, 117, 105, 99, 107, 32, 98, 114, 111, 119, 110, 32, 102, 111, 120, 32, 106, 117, 109, 112, 115, 32, 111, 118, 101, 114, 32, 116, 104, 101, 32, 108, 97, 122, 121, 32, 100, 111, 103]⟩, .int .u32 1095738169] 23)).alloc (.cells #[.string ⟨#[0, 0, 0, 0]⟩, .int .u32 558161692] 23)) := below_alloc (below_alloc (Below.refl _ _) _) _
  have hsz : ((w.alloc (.cells #[.string ⟨#[]⟩, .int .u32 0, .string ⟨#[97]⟩, .int .u32 3904355907, .string ⟨#[97, 98, 99]⟩, .int .u32 891568578, .string ⟨#[49, 50, 51, 52, 53, 54, 55, 56, 57]⟩, .int .u32 3421780262, .string ⟨#[0]⟩, .int .u32 3523407757, .string ⟨#[0, 0, 0, 0]⟩, .int .u32 558161692, .string ⟨#[255, 255, 255, 255]⟩, .int .u32 4294967295, .string ⟨#[84, 104, 101, 32, 113, 117, 105, 99, 107, 32, 98, 114, 111, 119, 110, 32, 102, 111, 120, 32, 106, 117, 109, 112, 115, 32, 111, 118, 101, 114, 32, 116, 104, 101, 32, 108, 97, 122, 121, 32, 100, 111, 103]⟩, .int .u32 1095738169] 23)).alloc (.cells #[.string ⟨#[0, 0, 0, 0]⟩, .int .u32 558161692] 23)).heap.size = w.heap.size + 1 + 1 := by simp
  generalize (w.alloc (.cells #[.string ⟨#[]⟩, .int .u32 0, .string ⟨#[97]⟩, .int .u32 3904355907, .string ⟨#[97, 98, 99]⟩, .int .u32 891568578, .string ⟨#[49, 50, 51, 52, 53, 54, 55, 56, 57]⟩, .int .u32 3421780262, .string ⟨#[0]⟩, .int .u32 3523407757, .string ⟨#[0, 0, 0, 0]⟩, .int .u32 558161692, .string ⟨#[255, 255, 255, 255]⟩, .int .u32 4294967295, .string ⟨#[84, 104, 101, 32, 113, 117, 105, 99, 107, 32, 98, 114, 111, 119, 110, 32, 102, 111, 120, 32, 106, 117, 109, 112, 115, 32, 111, 118, 101, 114, 32, 116, 104, 101, 32, 108, 97, 122, 121, 32, 100, 111, 103]⟩, .int .u32 1095738169] 23)).alloc (.cells #[.string ⟨#[0, 0, 0, 0]⟩, .int .u32 558161692] 23) = W at h0 h1 h2 hsz ⊢
  have hszA := Aside0.mk hsz
  refine start_ (n := 11) (S := fun w' => w'.cell? ⟨w.heap.size + 1, 0, none⟩ = some (.string ⟨#[0, 0, 0, 0]⟩) ∧ w'.cell? ⟨w.heap.size + 1, 1, none⟩ = some (.int .u32 558161692) ∧ Below w.heap.size w w' ∧ w.heap.size + 1 < w'.heap.size) (ds := []) #[false, false, false, false, false, false, false, false, false, false, false] (by kernel_rfl) rfl rfl ⟨by simpa using h0, by simpa using h1, below_drew h2, by show _ < W.heap.size; omega⟩ (fun hHeld => ?_)
  refine pure_ (i := 0) (N := some 22) (v := ?_) (a' := ?_) #[true, false, false, false, false, false, false, false, false, false, false] rfl rfl (by kernel_rfl) (fun _ _ _ h => h) (Or.inl ⟨by rfl, ?_⟩) ?_ ?_
  rotate_left
  · intro w'
    go_simp
    with_reducible rfl
  rotate_left
  · simp only [Act.put, List.setIfInBounds_toArray, List.set_cons_zero, List.set_cons_succ, i64_w, i32_w]
    rfl
  refine take_ (i := 1) (N := some 23) (v := ?_) (a' := ?_) #[true, true, false, false, false, false, false, false, false, false, false] rfl rfl (by kernel_rfl) (fun _ _ _ h => h) (Or.inl ⟨by rfl, ?_⟩) hHeld ?_ ?_
  rotate_left
  · rintro w' ⟨s0, s1, s2, s3⟩
    go_simp
    with_reducible rfl
  rotate_left
  · simp only [Act.put, List.setIfInBounds_toArray, List.set_cons_zero, List.set_cons_succ, i64_w, i32_w]
    rfl
  refine pure_ (i := 4) (N := some 26) (v := ?_) (a' := ?_) #[true, true, false, false, true, false, false, false, false, false, false] rfl rfl (by kernel_rfl) (fun _ _ _ h => h) (Or.inl ⟨by rfl, ?_⟩) ?_ ?_
  rotate_left
  · intro w'
    go_simp
    with_reducible rfl
  rotate_left
  · simp only [Act.put, List.setIfInBounds_toArray, List.set_cons_zero, List.set_cons_succ, i64_w, i32_w]
    rfl
  refine take_ (i := 5) (N := some 27) (v := ?_) (a' := ?_) #[true, true, false, false, true, true, false, false, false, false, false] rfl rfl (by kernel_rfl) (fun _ _ _ h => h) (Or.inl ⟨by rfl, ?_⟩) hHeld ?_ ?_
  rotate_left
  · rintro w' ⟨s0, s1, s2, s3⟩
    go_simp
    with_reducible rfl
  rotate_left
  · simp only [Act.put, List.setIfInBounds_toArray, List.set_cons_zero, List.set_cons_succ, i64_w, i32_w]
    rfl
  refine one_ (i := 2) (N := some 24) #[true, true, true, false, true, true, false, false, false, false, false] rfl rfl (by kernel_rfl) (by decide) (fun K hK => ?_)
  refine value_ (w1 := ?_) (v := ?_) (by rfl) rfl ?_ ?_
  rotate_left 2
  · go_simp
    constructor
    · rfl
    · rfl
  refine hK.out _ _ ⟨(Lib.bytesWorld_old _ _ _ _ hHeld.2.2.2).trans hHeld.1, (Lib.bytesWorld_old _ _ _ _ hHeld.2.2.2).trans hHeld.2.1, Below.bytesWorld hHeld.2.2.1 (Nat.le_of_lt (Nat.lt_of_succ_lt hHeld.2.2.2)) _ _, by rw [Lib.bytesWorld_size]; have := hHeld.2.2.2; omega⟩ (fun hHeld => ?_)
  clear hK K
  refine norm_ (a' := ?_) ?_ ?_
  rotate_left
  · show Act.put _ (some 24) _ = _
    simp only [Act.put, List.setIfInBounds_toArray, List.set_cons_zero, List.set_cons_succ, i64_w, i32_w]
    rfl
  refine one_ (i := 3) (N := some 25) #[true, true, true, true, true, true, false, false, false, false, false] rfl rfl (by kernel_rfl) (by decide) (fun K hK => ?_)
  refine goes_ Try.func8 (by kernel_rfl) rfl #[.slice (some ⟨w.heap.size + 1 + 1, 0, none⟩) 4 (grownCap W.drew 4 0 5)] (by rfl) rfl rfl (by (try simp only [List.map_toArray, List.map_cons, List.map_nil]); first | done | rfl) ?_
  refine (sum_str ⟨#[0, 0, 0, 0]⟩ [0, 0, 0, 0] 558161692 W.drew (w.heap.size + 1 + 1) 4 (grownCap W.drew 4 0 5) ?h1 ?h2 ?h3 E1.out L1.out A1.out).mono ?_
  case h1 => exact hsz.symm
  case h2 => rfl
  case h3 => exact grownCap_ge _ _ _ _
  rintro e w' ⟨rfl, nd, rfl⟩
  refine ⟨_, rfl, ?_⟩
  refine hK.out _ _ ⟨by simpa using hHeld.1, by simpa using hHeld.2.1, pw_below_drewN hHeld.2.2.1 _, by simpa using hHeld.2.2.2⟩ (fun hHeld => ?_)
  clear hK K
  refine norm_ (a' := ?_) ?_ ?_
  rotate_left
  · show Act.put _ (some 25) _ = _
    simp only [Act.put, List.setIfInBounds_toArray, List.set_cons_zero, List.set_cons_succ, i64_w, i32_w]
    rfl
  refine pure_ (i := 6) (N := some 28) (v := ?_) (a' := ?_) #[true, true, true, true, true, true, true, false, false, false, false] rfl rfl (by kernel_rfl) (fun _ _ _ h => h) (Or.inl ⟨by rfl, ?_⟩) ?_ ?_
  rotate_left
  · intro w'
    go_simp
    with_reducible rfl
  rotate_left
  · simp only [Act.put, List.setIfInBounds_toArray, List.set_cons_zero, List.set_cons_succ, i64_w, i32_w]
    rfl
  refine pure_ (i := 7) (N := some 29) (v := ?_) (a' := ?_) #[true, true, true, true, true, true, true, true, false, false, false] rfl rfl (by kernel_rfl) (fun _ _ _ h => h) (Or.inl ⟨by rfl, ?_⟩) ?_ ?_
  rotate_left
  · intro w'
    go_simp
    with_reducible rfl
  rotate_left
  · simp only [Act.put, List.setIfInBounds_toArray, List.set_cons_zero, List.set_cons_succ, i64_w, i32_w]
    rfl
  refine one_ (i := 8) (N := some 30) #[true, true, true, true, true, true, true, true, true, false, false] rfl rfl (by kernel_rfl) (by decide) (fun K hK => ?_)
  refine goes_ Try.func9 (by kernel_rfl) rfl #[] (by rfl) rfl rfl (by (try simp only [List.map_toArray, List.map_cons, List.map_nil]); first | done | rfl) ?_
  refine (awake_calls _).mono ?_
  rintro e w' ⟨rfl, hb⟩
  refine ⟨_, rfl, ?_⟩
  refine hK.out _ _ ⟨(hb.cell hHeld.2.2.2).trans hHeld.1, (hb.cell hHeld.2.2.2).trans hHeld.2.1, below_then hHeld.2.2.1 (by have := hHeld.2.2.2; omega) hb, by have := hb.size; have := hHeld.2.2.2; omega⟩ (fun hHeld => ?_)
  clear hK K
  refine norm_ (a' := ?_) ?_ ?_
  rotate_left
  · show Act.put _ (some 30) _ = _
    simp only [Act.put, List.setIfInBounds_toArray, List.set_cons_zero, List.set_cons_succ, i64_w, i32_w]
    rfl
  refine pure_ (i := 9) (N := some 31) (v := ?_) (a' := ?_) #[true, true, true, true, true, true, true, true, true, true, false] rfl rfl (by kernel_rfl) (fun _ _ _ h => h) (Or.inl ⟨by rfl, ?_⟩) ?_ ?_
  rotate_left
  · intro w'
    go_simp
    with_reducible rfl
  rotate_left
  · simp only [Act.put, List.setIfInBounds_toArray, List.set_cons_zero, List.set_cons_succ, i64_w, i32_w]
    rfl
  refine pure_ (i := 10) (N := some 2) (v := ?_) (a' := ?_) #[true, true, true, true, true, true, true, true, true, true, true] rfl rfl (by kernel_rfl) (fun _ _ _ h => h) (Or.inl ⟨by rfl, ?_⟩) ?_ ?_
  rotate_left
  · intro w'
    go_simp
    with_reducible rfl
  rotate_left
  · simp only [Act.put, List.setIfInBounds_toArray, List.set_cons_zero, List.set_cons_succ, i64_w, i32_w]
    rfl
  refine done_ (by kernel_rfl) ?_
  go_wp2
  go_ret
  exact ⟨rfl, hHeld.2.2.1⟩

set_option maxHeartbeats 800000 in
set_option maxRecDepth 100000 in
theorem forms_6 (which : Int) (w : World) (hj : Int.tmod (Go.bits .and .i64 which 255) 8 = 6) :
    Calls Try.prog 3 #[.int .i64 which] w fun e w' => e = .returned (.bool true) ∧ Below w.heap.size w w' := by
  have A1 := Aside0.mk (crcs_sum_f [255, 255, 255, 255] (bytes_of (by decide +kernel)) (by decide) 80 (by decide))
  rw [show Crc.sm (List.map Int.toNat [255, 255, 255, 255]) = 4294967295 from by decide +kernel] at A1
  have A1 : Aside0 (crcs_Sum.f 80 [255, 255, 255, 255] = some 4294967295) := A1
  have E1 := Aside0.mk (show (⟨#[255, 255, 255, 255]⟩ : ByteArray).data.toList.map (fun b => (b.toNat : Int)) = [255, 255, 255, 255] from by decide)
  have L1 := Aside0.mk (show ([255, 255, 255, 255] : List Int).length ≤ 1000 from by decide)
  have kc := fun (w : World) (s : ByteArray) => Lib.run_convert_string_bytes (P := Try.prog) w 9 26 5 s Try.underlying9 Try.underlying26 Try.underlying5
  go_enter Try.func3, Try.ntmps3
  go_wp2_with fail
  have h0 : ((w.alloc (.cells #[.string ⟨#[]⟩, .int .u32 0, .string ⟨#[97]⟩, .int .u32 3904355907, .string ⟨#[97, 98, 99]⟩, .int .u32 891568578, .string ⟨#[49, 50, 51, 52, 53, 54, 55, 56, 57]⟩, .int .u32 3421780262, .string ⟨#[0]⟩, .int .u32 3523407757, .string ⟨#[0, 0, 0, 0]⟩, .int .u32 558161692, .string ⟨#[255, 255, 255, 255]⟩, .int .u32 4294967295, .string ⟨#[84, 104, 101, 32, 113, 117, 105, 99, 107, 32, 98, 114, 111, 119, 110, 32, 102, 111, 120, 32, 106, 117, 109, 112, 115, 32, 111, 118, 101, 114, 32, 116, 104, 101, 32, 108, 97, 122, 121, 32, 100, 111, 103]⟩, .int .u32 1095738169] 23)).alloc (.cells #[.string ⟨#[255, 255, 255, 255]⟩, .int .u32 4294967295] 23)).cell? ⟨w.heap.size + 1, 0, none⟩ = some (.string ⟨#[255, 255, 255, 255]⟩) := by simp
  have h1 : ((w.alloc (.cells #[.string ⟨#[]⟩, .int .u32 0, .string ⟨#[97]⟩, .int .u32 3904355907, .string ⟨#[97, 98, 99]⟩, .int .u32 891568578, .string ⟨#[49, 50, 51, 52, 53, 54, 55, 56, 57]⟩, .int .u32 3421780262, .string ⟨#[0]⟩, .int .u32 3523407757, .string ⟨#[0, 0, 0, 0]⟩, .int .u32 558161692, .string ⟨#[255, 255, 255, 255]⟩, .int .u32 4294967295, .string ⟨#[84, 104, 101, 32, 113, 117, 105, 99, 107, 32, 98, 114, 111, 119, 110, 32, 102, 111, 120, 32, 106, 117, 109, 112, 115, 32, 111, 118, 101, 114, 32, 116, 104, 101, 32, 108, 97, 122, 121, 32, 100, 111, 103]⟩, .int .u32 1095738169] 23)).alloc (.cells #[.string ⟨#[255, 255, 255, 255]⟩, .int .u32 4294967295] 23)).cell? ⟨w.heap.size + 1, 1, none⟩ = some (.int .u32 4294967295) := by simp
  have h2 : Below w.heap.size w ((w.alloc (.cells #[.string ⟨#[]⟩, .int .u32 0, .string ⟨#[97]⟩, .int .u32 3904355907, .string ⟨#[97, 98, 99]⟩, .int .u32 891568578, .string ⟨#[49, 50, 51, 52, 53, 54, 55, 56, 57]⟩, .int .u32 3421780262, .string ⟨#[0]⟩, .int .u32 3523407757, .string ⟨#[0, 0, 0, 0]⟩, .int .u32 558161692, .string ⟨#[255, 255, 255, 255]⟩, .int .u32 4294967295, .string ⟨#[84, 104, 101, 32, 113, 117, 105, 99, 107, 32, 98, 114, 111, 119, 110, 32, 102, 111, 120, 32, 106, 117, 109, 112, 115, 32, 111, 118, 101, 114, 32, 116, 104, 101, 32, 108, 97, 122, 121, 32, 100, 111, 103]⟩, .int .u32 1095738169] 23)).alloc (.cells #[.string ⟨#[255, 255, 255, 255]⟩, .int .u32 4294967295] 23)) := below_alloc (below_alloc (Below.refl _ _) _) _
  have hsz : ((w.alloc (.cells #[.string ⟨#[]⟩, .int .u32 0, .string ⟨#[97]⟩, .int .u32 3904355907, .string ⟨#[97, 98, 99]⟩, .int .u32 891568578, .string ⟨#[49, 50, 51, 52, 53, 54, 55, 56, 57]⟩, .int .u32 3421780262, .string ⟨#[0]⟩, .int .u32 3523407757, .string ⟨#[0, 0, 0, 0]⟩, .int .u32 558161692, .string ⟨#[255, 255, 255, 255]⟩, .int .u32 4294967295, .string ⟨#[84, 104, 101, 32, 113, 117, 105, 99, 107, 32, 98, 114, 111, 119, 110, 32, 102, 111, 120, 32, 106, 117, 109, 112, 115, 32, 111, 118, 101, 114, 32, 116, 104, 101, 32, 108, 97, 122, 121, 32, 100, 111, 103]⟩, .int .u32 1095738169] 23)).alloc (.cells #[.string ⟨#[255, 255, 255, 255]⟩, .int .u32 4294967295] 23)).heap.size = w.heap.size + 1 + 1 := by simp
  generalize (w.alloc (.cells #[.string ⟨#[]⟩, .int .u32 0, .string ⟨#[97]⟩, .int .u32 3904355907, .string ⟨#[97, 98, 99]⟩, .int .u32 891568578, .string ⟨#[49, 50, 51, 52, 53, 54, 55, 56, 57]⟩, .int .u32 3421780262, .string ⟨#[0]⟩, .int .u32 3523407757, .string ⟨#[0, 0, 0, 0]⟩, .int .u32 558161692, .string ⟨#[255, 255, 255, 255]⟩, .int .u32 4294967295, .string ⟨#[84, 104, 101, 32, 113, 117, 105, 99, 107, 32, 98, 114, 111, 119, 110, 32, 102, 111, 120, 32, 106, 117, 109, 112, 115, 32, 111, 118, 101, 114, 32, 116, 104, 101, 32, 108, 97, 122, 121, 32, 100, 111, 103]⟩, .int .u32 1095738169] 23)).alloc (.cells #[.string ⟨#[255, 255, 255, 255]⟩, .int .u32 4294967295] 23) = W at h0 h1 h2 hsz ⊢
  have hszA := Aside0.mk hsz
  refine start_ (n := 11) (S := fun w' => w'.cell? ⟨w.heap.size + 1, 0, none⟩ = some (.string ⟨#[255, 255, 255, 255]⟩) ∧ w'.cell? ⟨w.heap.size + 1, 1, none⟩ = some (.int .u32 4294967295) ∧ Below w.heap.size w w' ∧ w.heap.size + 1 < w'.heap.size) (ds := []) #[false, false, false, false, false, false, false, false, false, false, false] (by kernel_rfl) rfl rfl ⟨by simpa using h0, by simpa using h1, below_drew h2, by show _ < W.heap.size; omega⟩ (fun hHeld => ?_)
  refine pure_ (i := 0) (N := some 22) (v := ?_) (a' := ?_) #[true, false, false, false, false, false, false, false, false, false, false] rfl rfl (by kernel_rfl) (fun _ _ _ h => h) (Or.inl ⟨by rfl, ?_⟩) ?_ ?_
  rotate_left
  · intro w'
    go_simp
    with_reducible rfl
  rotate_left
  · simp only [Act.put, List.setIfInBounds_toArray, List.set_cons_zero, List.set_cons_succ, i64_w, i32_w]
    rfl
  refine take_ (i := 1) (N := some 23) (v := ?_) (a' := ?_) #[true, true, false, false, false, false, false, false, false, false, false] rfl rfl (by kernel_rfl) (fun _ _ _ h => h) (Or.inl ⟨by rfl, ?_⟩) hHeld ?_ ?_
  rotate_left
  · rintro w' ⟨s0, s1, s2, s3⟩
    go_simp
    with_reducible rfl
  rotate_left
  · simp only [Act.put, List.setIfInBounds_toArray, List.set_cons_zero, List.set_cons_succ, i64_w, i32_w]
    rfl
  refine pure_ (i := 4) (N := some 26) (v := ?_) (a' := ?_) #[true, true, false, false, true, false, false, false, false, false, false] rfl rfl (by kernel_rfl) (fun _ _ _ h => h) (Or.inl ⟨by rfl, ?_⟩) ?_ ?_
  rotate_left
  · intro w'
    go_simp
    with_reducible rfl
  rotate_left
  · simp only [Act.put, List.setIfInBounds_toArray, List.set_cons_zero, List.set_cons_succ, i64_w, i32_w]
    rfl
  refine take_ (i := 5) (N := some 27) (v := ?_) (a' := ?_) #[true, true, false, false, true, true, false, false, false, false, false] rfl rfl (by kernel_rfl) (fun _ _ _ h => h) (Or.inl ⟨by rfl, ?_⟩) hHeld ?_ ?_
  rotate_left
  · rintro w' ⟨s0, s1, s2, s3⟩
    go_simp
    with_reducible rfl
  rotate_left
  · simp only [Act.put, List.setIfInBounds_toArray, List.set_cons_zero, List.set_cons_succ, i64_w, i32_w]
    rfl
  refine one_ (i := 2) (N := some 24) #[true, true, true, false, true, true, false, false, false, false, false] rfl rfl (by kernel_rfl) (by decide) (fun K hK => ?_)
  refine value_ (w1 := ?_) (v := ?_) (by rfl) rfl ?_ ?_
  rotate_left 2
  · go_simp
    constructor
    · rfl
    · rfl
  refine hK.out _ _ ⟨(Lib.bytesWorld_old _ _ _ _ hHeld.2.2.2).trans hHeld.1, (Lib.bytesWorld_old _ _ _ _ hHeld.2.2.2).trans hHeld.2.1, Below.bytesWorld hHeld.2.2.1 (Nat.le_of_lt (Nat.lt_of_succ_lt hHeld.2.2.2)) _ _, by rw [Lib.bytesWorld_size]; have := hHeld.2.2.2; omega⟩ (fun hHeld => ?_)
  clear hK K
  refine norm_ (a' := ?_) ?_ ?_
  rotate_left
  · show Act.put _ (some 24) _ = _
    simp only [Act.put, List.setIfInBounds_toArray, List.set_cons_zero, List.set_cons_succ, i64_w, i32_w]
    rfl
  refine one_ (i := 3) (N := some 25) #[true, true, true, true, true, true, false, false, false, false, false] rfl rfl (by kernel_rfl) (by decide) (fun K hK => ?_)
  refine goes_ Try.func8 (by kernel_rfl) rfl #[.slice (some ⟨w.heap.size + 1 + 1, 0, none⟩) 4 (grownCap W.drew 4 0 5)] (by rfl) rfl rfl (by (try simp only [List.map_toArray, List.map_cons, List.map_nil]); first | done | rfl) ?_
  refine (sum_str ⟨#[255, 255, 255, 255]⟩ [255, 255, 255, 255] 4294967295 W.drew (w.heap.size + 1 + 1) 4 (grownCap W.drew 4 0 5) ?h1 ?h2 ?h3 E1.out L1.out A1.out).mono ?_
  case h1 => exact hsz.symm
  case h2 => rfl
  case h3 => exact grownCap_ge _ _ _ _
  rintro e w' ⟨rfl, nd, rfl⟩
  refine ⟨_, rfl, ?_⟩
  refine hK.out _ _ ⟨by simpa using hHeld.1, by simpa using hHeld.2.1, pw_below_drewN hHeld.2.2.1 _, by simpa using hHeld.2.2.2⟩ (fun hHeld => ?_)
  clear hK K
  refine norm_ (a' := ?_) ?_ ?_
  rotate_left
  · show Act.put _ (some 25) _ = _
    simp only [Act.put, List.setIfInBounds_toArray, List.set_cons_zero, List.set_cons_succ, i64_w, i32_w]
    rfl
  refine pure_ (i := 6) (N := some 28) (v := ?_) (a' := ?_) #[true, true, true, true, true, true, true, false, false, false, false] rfl rfl (by kernel_rfl) (fun _ _ _ h => h) (Or.inl ⟨by rfl, ?_⟩) ?_ ?_
  rotate_left
  · intro w'
    go_simp
    with_reducible rfl
  rotate_left
  · simp only [Act.put, List.setIfInBounds_toArray, List.set_cons_zero, List.set_cons_succ, i64_w, i32_w]
    rfl
  refine pure_ (i := 7) (N := some 29) (v := ?_) (a' := ?_) #[true, true, true, true, true, true, true, true, false, false, false] rfl rfl (by kernel_rfl) (fun _ _ _ h => h) (Or.inl ⟨by rfl, ?_⟩) ?_ ?_
  rotate_left
  · intro w'
    go_simp
    with_reducible rfl
  rotate_left
  · simp only [Act.put, List.setIfInBounds_toArray, List.set_cons_zero, List.set_cons_succ, i64_w, i32_w]
    rfl
  refine one_ (i := 8) (N := some 30) #[true, true, true, true, true, true, true, true, true, false, false] rfl rfl (by kernel_rfl) (by decide) (fun K hK => ?_)
  refine goes_ Try.func9 (by kernel_rfl) rfl #[] (by rfl) rfl rfl (by (try simp only [List.map_toArray, List.map_cons, List.map_nil]); first | done | rfl) ?_
  refine (awake_calls _).mono ?_
  rintro e w' ⟨rfl, hb⟩
  refine ⟨_, rfl, ?_⟩
  refine hK.out _ _ ⟨(hb.cell hHeld.2.2.2).trans hHeld.1, (hb.cell hHeld.2.2.2).trans hHeld.2.1, below_then hHeld.2.2.1 (by have := hHeld.2.2.2; omega) hb, by have := hb.size; have := hHeld.2.2.2; omega⟩ (fun hHeld => ?_)
  clear hK K
  refine norm_ (a' := ?_) ?_ ?_
  rotate_left
  · show Act.put _ (some 30) _ = _
    simp only [Act.put, List.setIfInBounds_toArray, List.set_cons_zero, List.set_cons_succ, i64_w, i32_w]
    rfl
  refine pure_ (i := 9) (N := some 31) (v := ?_) (a' := ?_) #[true, true, true, true, true, true, true, true, true, true, false] rfl rfl (by kernel_rfl) (fun _ _ _ h => h) (Or.inl ⟨by rfl, ?_⟩) ?_ ?_
  rotate_left
  · intro w'
    go_simp
    with_reducible rfl
  rotate_left
  · simp only [Act.put, List.setIfInBounds_toArray, List.set_cons_zero, List.set_cons_succ, i64_w, i32_w]
    rfl
  refine pure_ (i := 10) (N := some 2) (v := ?_) (a' := ?_) #[true, true, true, true, true, true, true, true, true, true, true] rfl rfl (by kernel_rfl) (fun _ _ _ h => h) (Or.inl ⟨by rfl, ?_⟩) ?_ ?_
  rotate_left
  · intro w'
    go_simp
    with_reducible rfl
  rotate_left
  · simp only [Act.put, List.setIfInBounds_toArray, List.set_cons_zero, List.set_cons_succ, i64_w, i32_w]
    rfl
  refine done_ (by kernel_rfl) ?_
  go_wp2
  go_ret
  exact ⟨rfl, hHeld.2.2.1⟩

set_option maxHeartbeats 800000 in
set_option maxRecDepth 100000 in
theorem forms_7 (which : Int) (w : World) (hj : Int.tmod (Go.bits .and .i64 which 255) 8 = 7) :
    Calls Try.prog 3 #[.int .i64 which] w fun e w' => e = .returned (.bool true) ∧ Below w.heap.size w w' := by
  have A1 := Aside0.mk (crcs_sum_f [84, 104, 101, 32, 113, 117, 105, 99, 107, 32, 98, 114, 111, 119, 110, 32, 102, 111, 120, 32, 106, 117, 109, 112, 115, 32, 111, 118, 101, 114, 32, 116, 104, 101, 32, 108, 97, 122, 121, 32, 100, 111, 103] (bytes_of (by decide +kernel)) (by decide) 80 (by decide))
  rw [show Crc.sm (List.map Int.toNat [84, 104, 101, 32, 113, 117, 105, 99, 107, 32, 98, 114, 111, 119, 110, 32, 102, 111, 120, 32, 106, 117, 109, 112, 115, 32, 111, 118, 101, 114, 32, 116, 104, 101, 32, 108, 97, 122, 121, 32, 100, 111, 103]) = 1095738169 from by decide +kernel] at A1
  have A1 : Aside0 (crcs_Sum.f 80 [84, 104, 101, 32, 113, 117, 105, 99, 107, 32, 98, 114, 111, 119, 110, 32, 102, 111, 120, 32, 106, 117, 109, 112, 115, 32, 111, 118, 101, 114, 32, 116, 104, 101, 32, 108, 97, 122, 121, 32, 100, 111, 103] = some 1095738169) := A1
  have E1 := Aside0.mk (show (⟨#[84, 104, 101, 32, 113, 117, 105, 99, 107, 32, 98, 114, 111, 119, 110, 32, 102, 111, 120, 32, 106, 117, 109, 112, 115, 32, 111, 118, 101, 114, 32, 116, 104, 101, 32, 108, 97, 122, 121, 32, 100, 111, 103]⟩ : ByteArray).data.toList.map (fun b => (b.toNat : Int)) = [84, 104, 101, 32, 113, 117, 105, 99, 107, 32, 98, 114, 111, 119, 110, 32, 102, 111, 120, 32, 106, 117, 109, 112, 115, 32, 111, 118, 101, 114, 32, 116, 104, 101, 32, 108, 97, 122, 121, 32, 100, 111, 103] from by decide)
  have L1 := Aside0.mk (show ([84, 104, 101, 32, 113, 117, 105, 99, 107, 32, 98, 114, 111, 119, 110, 32, 102, 111, 120, 32, 106, 117, 109, 112, 115, 32, 111, 118, 101, 114, 32, 116, 104, 101, 32, 108, 97, 122, 121, 32, 100, 111, 103] : List Int).length ≤ 1000 from by decide)
  have kc := fun (w : World) (s : ByteArray) => Lib.run_convert_string_bytes (P := Try.prog) w 9 26 5 s Try.underlying9 Try.underlying26 Try.underlying5
  go_enter Try.func3, Try.ntmps3
  go_wp2_with fail
  have h0 : ((w.alloc (.cells #[.string ⟨#[]⟩, .int .u32 0, .string ⟨#[97]⟩, .int .u32 3904355907, .string ⟨#[97, 98, 99]⟩, .int .u32 891568578, .string ⟨#[49, 50, 51, 52, 53, 54, 55, 56, 57]⟩, .int .u32 3421780262, .string ⟨#[0]⟩, .int .u32 3523407757, .string ⟨#[0, 0, 0, 0]⟩, .int .u32 558161692, .string ⟨#[255, 255, 255, 255]⟩, .int .u32 4294967295, .string ⟨#[84, 104, 101, 32, 113, 117, 105, 99, 107, 32, 98, 114, 111, 119, 110, 32, 102, 111, 120, 32, 106, 117, 109, 112, 115, 32, 111, 118, 101, 114, 32, 116, 104, 101, 32, 108, 97, 122, 121, 32, 100, 111, 103]⟩, .int .u32 1095738169] 23)).alloc (.cells #[.string ⟨#[84, 104, 101, 32, 113, 117, 105, 99, 107, 32, 98, 114, 111, 119, 110, 32, 102, 111, 120, 32, 106, 117, 109, 112, 115, 32, 111, 118, 101, 114, 32, 116, 104, 101, 32, 108, 97, 122, 121, 32, 100, 111, 103]⟩, .int .u32 1095738169] 23)).cell? ⟨w.heap.size + 1, 0, none⟩ = some (.string ⟨#[84, 104, 101, 32, 113, 117, 105, 99, 107, 32, 98, 114, 111, 119, 110, 32, 102, 111, 120, 32, 106, 117, 109, 112, 115, 32, 111, 118, 101, 114, 32, 116, 104, 101, 32, 108, 97, 122, 121, 32, 100, 111, 103]⟩) := by simp
  have h1 : ((w.alloc (.cells #[.string ⟨#[]⟩, .int .u32 0, .string ⟨#[97]⟩, .int .u32 3904355907, .string ⟨#[97, 98, 99]⟩, .int .u32 891568578, .string ⟨#[49, 50, 51, 52, 53, 54, 55, 56, 57]⟩, .int .u32 3421780262, .string ⟨#[0]⟩, .int .u32 3523407757, .string ⟨#[0, 0, 0, 0]⟩, .int .u32 558161692, .string ⟨#[255, 255, 255, 255]⟩, .int .u32 4294967295, .string ⟨#[84, 104, 101, 32, 113, 117, 105, 99, 107, 32, 98, 114, 111, 119, 110, 32, 102, 111, 120, 32, 106, 117, 109, 112, 115, 32, 111, 118, 101, 114, 32, 116, 104, 101, 32, 108, 97, 122, 121, 32, 100, 111, 103]⟩, .int .u32 1095738169] 23)).alloc (.cells #[.string ⟨#[84, 104, 101, 32, 113, 117, 105, 99, 107, 32, 98, 114, 111, 119, 110, 32, 102, 111, 120, 32, 106, 117, 109, 112, 115, 32, 111, 118, 101, 114, 32, 116, 104, 101, 32, 108, 97, 122, 121, 32, 100, 111, 103]⟩, .int .u32 1095738169] 23)).cell? ⟨w.heap.size + 1, 1, none⟩ = some (.int .u32 1095738169) := by simp
  have h2 : Below w.heap.size w ((w.alloc (.cells #[.string ⟨#[]⟩, .int .u32 0, .string ⟨#[97]⟩, .int .u32 3904355907, .string ⟨#[97, 98, 99]⟩, .int .u32 891568578, .string ⟨#[49, 50, 51, 52, 53, 54, 55, 56, 57]⟩, .int .u32 3421780262, .string ⟨#[0]⟩, .int .u32 3523407757, .string ⟨#[0, 0, 0, 0]⟩, .int .u32 558161692, .string ⟨#[255, 255, 255, 255]⟩, .int .u32 4294967295, .string ⟨#[84, 104, 101, 32, 113, 117, 105, 99, 107, 32, 98, 114, 111, 119, 110, 32, 102, 111, 120, 32, 106, 117, 109, 112, 115, 32, 111, 118, 101, 114, 32, 116, 104, 101, 32, 108, 97, 122, 121, 32, 100, 111, 103]⟩, .int .u32 1095738169] 23)).alloc (.cells #[.string ⟨#[84, 104, 101, 32, 113, 117, 105, 99, 107, 32, 98, 114, 111, 119, 110, 32, 102, 111, 120, 32, 106, 117, 109, 112, 115, 32, 111, 118, 101, 114, 32, 116, 104, 101, 32, 108, 97, 122, 121, 32, 100, 111, 103]⟩, .int .u32 1095738169] 23)) := below_alloc (below_alloc (Below.refl _ _) _) _
  have hsz : ((w.alloc (.cells #[.string ⟨#[]⟩, .int .u32 0, .string ⟨#[97]⟩, .int .u32 3904355907, .string ⟨#[97, 98, 99]⟩, .int .u32 891568578, .string ⟨#[49, 50, 51, 52, 53, 54, 55, 56, 57]⟩, .int .u32 3421780262, .string ⟨#[0]⟩, .int .u32 3523407757, .string ⟨#[0, 0, 0, 0]⟩, .int .u32 558161692, .string ⟨#[255, 255, 255, 255]⟩, .int .u32 4294967295, .string ⟨#[84, 104, 101, 32, 113, 117, 105, 99, 107, 32, 98, 114, 111, 119, 110, 32, 102, 111, 120, 32, 106, 117, 109, 112, 115, 32, 111, 118, 101, 114, 32, 116, 104, 101, 32, 108, 97, 122, 121, 32, 100, 111, 103]⟩, .int .u32 1095738169] 23)).alloc (.cells #[.string ⟨#[84, 104, 101, 32, 113, 117, 105, 99, 107, 32, 98, 114, 111, 119, 110, 32, 102, 111, 120, 32, 106, 117, 109, 112, 115, 32, 111, 118, 101, 114, 32, 116, 104, 101, 32, 108, 97, 122, 121, 32, 100, 111, 103]⟩, .int .u32 1095738169] 23)).heap.size = w.heap.size + 1 + 1 := by simp
  generalize (w.alloc (.cells #[.string ⟨#[]⟩, .int .u32 0, .string ⟨#[97]⟩, .int .u32 3904355907, .string ⟨#[97, 98, 99]⟩, .int .u32 891568578, .string ⟨#[49, 50, 51, 52, 53, 54, 55, 56, 57]⟩, .int .u32 3421780262, .string ⟨#[0]⟩, .int .u32 3523407757, .string ⟨#[0, 0, 0, 0]⟩, .int .u32 558161692, .string ⟨#[255, 255, 255, 255]⟩, .int .u32 4294967295, .string ⟨#[84, 104, 101, 32, 113, 117, 105, 99, 107, 32, 98, 114, 111, 119, 110, 32, 102, 111, 120, 32, 106, 117, 109, 112, 115, 32, 111, 118, 101, 114, 32, 116, 104, 101, 32, 108, 97, 122, 121, 32, 100, 111, 103]⟩, .int .u32 1095738169] 23)).alloc (.cells #[.string ⟨#[84, 104, 101, 32, 113, 117, 105, 99, 107, 32, 98, 114, 111, 119, 110, 32, 102, 111, 120, 32, 106, 117, 109, 112, 115, 32, 111, 118, 101, 114, 32, 116, 104, 101, 32, 108, 97, 122, 121, 32, 100, 111, 103]⟩, .int .u32 1095738169] 23) = W at h0 h1 h2 hsz ⊢
  have hszA := Aside0.mk hsz
  refine start_ (n := 11) (S := fun w' => w'.cell? ⟨w.heap.size + 1, 0, none⟩ = some (.string ⟨#[84, 104, 101, 32, 113, 117, 105, 99, 107, 32, 98, 114, 111, 119, 110, 32, 102, 111, 120, 32, 106, 117, 109, 112, 115, 32, 111, 118, 101, 114, 32, 116, 104, 101, 32, 108, 97, 122, 121, 32, 100, 111, 103]⟩) ∧ w'.cell? ⟨w.heap.size + 1, 1, none⟩ = some (.int .u32 1095738169) ∧ Below w.heap.size w w' ∧ w.heap.size + 1 < w'.heap.size) (ds := []) #[false, false, false, false, false, false, false, false, false, false, false] (by kernel_rfl) rfl rfl ⟨by simpa using h0, by simpa using h1, below_drew h2, by show _ < W.heap.size; omega⟩ (fun hHeld => ?_)
  refine pure_ (i := 0) (N := some 22) (v := ?_) (a' := ?_) #[true, false, false, false, false, false, false, false, false, false, false] rfl rfl (by kernel_rfl) (fun _ _ _ h => h) (Or.inl ⟨by rfl, ?_⟩) ?_ ?_
  rotate_left
  · intro w'
    go_simp
    with_reducible rfl
  rotate_left
  · simp only [Act.put, List.setIfInBounds_toArray, List.set_cons_zero, List.set_cons_succ, i64_w, i32_w]
    rfl
  refine take_ (i := 1) (N := some 23) (v := ?_) (a' := ?_) #[true, true, false, false, false, false, false, false, false, false, false] rfl rfl (by kernel_rfl) (fun _ _ _ h => h) (Or.inl ⟨by rfl, ?_⟩) hHeld ?_ ?_
  rotate_left
  · rintro w' ⟨s0, s1, s2, s3⟩
    go_simp
    with_reducible rfl
  rotate_left
  · simp only [Act.put, List.setIfInBounds_toArray, List.set_cons_zero, List.set_cons_succ, i64_w, i32_w]
    rfl
  refine pure_ (i := 4) (N := some 26) (v := ?_) (a' := ?_) #[true, true, false, false, true, false, false, false, false, false, false] rfl rfl (by kernel_rfl) (fun _ _ _ h => h) (Or.inl ⟨by rfl, ?_⟩) ?_ ?_
  rotate_left
  · intro w'
    go_simp
    with_reducible rfl
  rotate_left
  · simp only [Act.put, List.setIfInBounds_toArray, List.set_cons_zero, List.set_cons_succ, i64_w, i32_w]
    rfl
  refine take_ (i := 5) (N := some 27) (v := ?_) (a' := ?_) #[true, true, false, false, true, true, false, false, false, false, false] rfl rfl (by kernel_rfl) (fun _ _ _ h => h) (Or.inl ⟨by rfl, ?_⟩) hHeld ?_ ?_
  rotate_left
  · rintro w' ⟨s0, s1, s2, s3⟩
    go_simp
    with_reducible rfl
  rotate_left
  · simp only [Act.put, List.setIfInBounds_toArray, List.set_cons_zero, List.set_cons_succ, i64_w, i32_w]
    rfl
  refine one_ (i := 2) (N := some 24) #[true, true, true, false, true, true, false, false, false, false, false] rfl rfl (by kernel_rfl) (by decide) (fun K hK => ?_)
  refine value_ (w1 := ?_) (v := ?_) (by rfl) rfl ?_ ?_
  rotate_left 2
  · go_simp
    constructor
    · rfl
    · rfl
  refine hK.out _ _ ⟨(Lib.bytesWorld_old _ _ _ _ hHeld.2.2.2).trans hHeld.1, (Lib.bytesWorld_old _ _ _ _ hHeld.2.2.2).trans hHeld.2.1, Below.bytesWorld hHeld.2.2.1 (Nat.le_of_lt (Nat.lt_of_succ_lt hHeld.2.2.2)) _ _, by rw [Lib.bytesWorld_size]; have := hHeld.2.2.2; omega⟩ (fun hHeld => ?_)
  clear hK K
  refine norm_ (a' := ?_) ?_ ?_
  rotate_left
  · show Act.put _ (some 24) _ = _
    simp only [Act.put, List.setIfInBounds_toArray, List.set_cons_zero, List.set_cons_succ, i64_w, i32_w]
    rfl
  refine one_ (i := 3) (N := some 25) #[true, true, true, true, true, true, false, false, false, false, false] rfl rfl (by kernel_rfl) (by decide) (fun K hK => ?_)
  refine goes_ Try.func8 (by kernel_rfl) rfl #[.slice (some ⟨w.heap.size + 1 + 1, 0, none⟩) 43 (grownCap W.drew 43 0 5)] (by rfl) rfl rfl (by (try simp only [List.map_toArray, List.map_cons, List.map_nil]); first | done | rfl) ?_
  refine (sum_str ⟨#[84, 104, 101, 32, 113, 117, 105, 99, 107, 32, 98, 114, 111, 119, 110, 32, 102, 111, 120, 32, 106, 117, 109, 112, 115, 32, 111, 118, 101, 114, 32, 116, 104, 101, 32, 108, 97, 122, 121, 32, 100, 111, 103]⟩ [84, 104, 101, 32, 113, 117, 105, 99, 107, 32, 98, 114, 111, 119, 110, 32, 102, 111, 120, 32, 106, 117, 109, 112, 115, 32, 111, 118, 101, 114, 32, 116, 104, 101, 32, 108, 97, 122, 121, 32, 100, 111, 103] 1095738169 W.drew (w.heap.size + 1 + 1) 43 (grownCap W.drew 43 0 5) ?h1 ?h2 ?h3 E1.out L1.out A1.out).mono ?_
  case h1 => exact hsz.symm
  case h2 => rfl
  case h3 => exact grownCap_ge _ _ _ _
  rintro e w' ⟨rfl, nd, rfl⟩
  refine ⟨_, rfl, ?_⟩
  refine hK.out _ _ ⟨by simpa using hHeld.1, by simpa using hHeld.2.1, pw_below_drewN hHeld.2.2.1 _, by simpa using hHeld.2.2.2⟩ (fun hHeld => ?_)
  clear hK K
  refine norm_ (a' := ?_) ?_ ?_
  rotate_left
  · show Act.put _ (some 25) _ = _
    simp only [Act.put, List.setIfInBounds_toArray, List.set_cons_zero, List.set_cons_succ, i64_w, i32_w]
    rfl
  refine pure_ (i := 6) (N := some 28) (v := ?_) (a' := ?_) #[true, true, true, true, true, true, true, false, false, false, false] rfl rfl (by kernel_rfl) (fun _ _ _ h => h) (Or.inl ⟨by rfl, ?_⟩) ?_ ?_
  rotate_left
  · intro w'
    go_simp
    with_reducible rfl
  rotate_left
  · simp only [Act.put, List.setIfInBounds_toArray, List.set_cons_zero, List.set_cons_succ, i64_w, i32_w]
    rfl
  refine pure_ (i := 7) (N := some 29) (v := ?_) (a' := ?_) #[true, true, true, true, true, true, true, true, false, false, false] rfl rfl (by kernel_rfl) (fun _ _ _ h => h) (Or.inl ⟨by rfl, ?_⟩) ?_ ?_
  rotate_left
  · intro w'
    go_simp
    with_reducible rfl
  rotate_left
  · simp only [Act.put, List.setIfInBounds_toArray, List.set_cons_zero, List.set_cons_succ, i64_w, i32_w]
    rfl
  refine one_ (i := 8) (N := some 30) #[true, true, true, true, true, true, true, true, true, false, false] rfl rfl (by kernel_rfl) (by decide) (fun K hK => ?_)
  refine goes_ Try.func9 (by kernel_rfl) rfl #[] (by rfl) rfl rfl (by (try simp only [List.map_toArray, List.map_cons, List.map_nil]); first | done | rfl) ?_
  refine (awake_calls _).mono ?_
  rintro e w' ⟨rfl, hb⟩
  refine ⟨_, rfl, ?_⟩
  refine hK.out _ _ ⟨(hb.cell hHeld.2.2.2).trans hHeld.1, (hb.cell hHeld.2.2.2).trans hHeld.2.1, below_then hHeld.2.2.1 (by have := hHeld.2.2.2; omega) hb, by have := hb.size; have := hHeld.2.2.2; omega⟩ (fun hHeld => ?_)
  clear hK K
  refine norm_ (a' := ?_) ?_ ?_
  rotate_left
  · show Act.put _ (some 30) _ = _
    simp only [Act.put, List.setIfInBounds_toArray, List.set_cons_zero, List.set_cons_succ, i64_w, i32_w]
    rfl
  refine pure_ (i := 9) (N := some 31) (v := ?_) (a' := ?_) #[true, true, true, true, true, true, true, true, true, true, false] rfl rfl (by kernel_rfl) (fun _ _ _ h => h) (Or.inl ⟨by rfl, ?_⟩) ?_ ?_
  rotate_left
  · intro w'
    go_simp
    with_reducible rfl
  rotate_left
  · simp only [Act.put, List.setIfInBounds_toArray, List.set_cons_zero, List.set_cons_succ, i64_w, i32_w]
    rfl
  refine pure_ (i := 10) (N := some 2) (v := ?_) (a' := ?_) #[true, true, true, true, true, true, true, true, true, true, true] rfl rfl (by kernel_rfl) (fun _ _ _ h => h) (Or.inl ⟨by rfl, ?_⟩) ?_ ?_
  rotate_left
  · intro w'
    go_simp
    with_reducible rfl
  rotate_left
  · simp only [Act.put, List.setIfInBounds_toArray, List.set_cons_zero, List.set_cons_succ, i64_w, i32_w]
    rfl
  refine done_ (by kernel_rfl) ?_
  go_wp2
  go_ret
  exact ⟨rfl, hHeld.2.2.1⟩

theorem forms_calls (which : Int) (w : World) : Calls Try.prog 3 #[.int .i64 which] w fun e w' => e = .returned (.bool true) ∧ Below w.heap.size w w' := by
  have e : (255 : Int) = ((255 : Nat) : Int) := rfl
  have hp : 0 ≤ Go.bits .and .i64 which 255 := by
    simp only [Go.bits, e, BitVec.ofInt_natCast, BitVec.toNat_and]
    have h : (BitVec.ofInt IntKind.i64.bits which).toNat &&& (BitVec.ofNat IntKind.i64.bits 255).toNat < 2 ^ 8 := Nat.and_lt_two_pow _ (by decide)
    generalize (BitVec.ofInt IntKind.i64.bits which).toNat &&& (BitVec.ofNat IntKind.i64.bits 255).toNat = t at h ⊢
    rw [IntKind.wrap_i64]
    omega
  have h1 := Int.tmod_nonneg 8 hp
  have h2 := Int.tmod_lt_of_pos (Go.bits .and .i64 which 255) (show (0 : Int) < 8 from by decide)
  have h3 : Int.tmod (Go.bits .and .i64 which 255) 8 = 0 ∨ Int.tmod (Go.bits .and .i64 which 255) 8 = 1 ∨ Int.tmod (Go.bits .and .i64 which 255) 8 = 2 ∨ Int.tmod (Go.bits .and .i64 which 255) 8 = 3 ∨ Int.tmod (Go.bits .and .i64 which 255) 8 = 4 ∨ Int.tmod (Go.bits .and .i64 which 255) 8 = 5 ∨ Int.tmod (Go.bits .and .i64 which 255) 8 = 6 ∨ Int.tmod (Go.bits .and .i64 which 255) 8 = 7 := by omega
  rcases h3 with h | h | h | h | h | h | h | h
  · exact forms_0 which w h
  · exact forms_1 which w h
  · exact forms_2 which w h
  · exact forms_3 which w h
  · exact forms_4 which w h
  · exact forms_5 which w h
  · exact forms_6 which w h
  · exact forms_7 which w h
end Go.Proofs.Ytggjnjckhhkniaa.Cs
namespace Go.Proofs.Ytggjnjckhhkniaa.crcsForms
open Go.ChangeShapes Go.WideShapes Go.ChangeAt Go.RowKit
theorem own : ownKnob Try.prog.godebug = none := by kernel_rfl
set_option maxRecDepth 100000 in
theorem lifted (os : Os) (started : os.Started) (H : Type) (enc : TypeId × Value → H) :
    ReturnsInHanded {} Try.checked os 3 .any (Rows.crcsFormsSpec.pre6 enc Try.prog Try.f3 Rows.crcsFormsRow.domain false) (Rows.crcsFormsSpec.post enc Try.prog Try.f3 false true false false) := by
  refine returnsInHanded_of_change_sized (C := Try.checked) own started (by kernel_rfl) Try.func3
    (ChangeSpec.witness6 (enc := enc) (C := Try.checked) false ⟨#[], #[.int .i64 0], []⟩ 8 (by kernel_rfl) (by kernel_rfl) (by kernel_rfl) (by kernel_rfl)) ?_
  intro W base args ds gs before hval0 hW _ _ _
  have hval : ∀ (j : Nat) t v, Try.f3.params[j]? = some t → args[j]? = some v → Value.okWide Try.prog W .any base t v := hval0
  have hW' := hW
  obtain ⟨p, q, hA0, hV, rfl, hfz, hnd⟩ := hW
  have hA : DataW.TrodAll enc Try.prog W 0 (fun _ => true) true Try.f3.params.toList args.toList ds p := hA0
  rw [Try.params3] at hA hval
  obtain ⟨v0, vs0, d0, ds0, p0, q0, hargs, rfl, rfl, h0, r0⟩ := trodAll_cons hA
  obtain ⟨rfl, rfl, rfl⟩ := trodAll_nil r0
  obtain rfl : args = #[v0] := by cases args; simp_all
  obtain ⟨rfl, rfl⟩ := trodVars_none hV
  obtain ⟨a0, rfl, rfl, rfl, w0⟩ := open_int Try.underlying3 (hval 0 3 v0 rfl rfl) h0
  clear hA0 hval0
  refine (Cs.forms_calls a0 W).mono fun e W' ⟨he, bel⟩ => ?_
  subst he
  exact ⟨_, rfl, _, _, _, [], _, [], hW', trodAll_mk1 (shut_bool Try.underlying4 _), (trodAll_cons_mk (shut_int Try.underlying3 w0) trodAll_mk0), rfl, bel.frame _, fun h => by cases h⟩
theorem over : Rows.crcsFormsRow.holds Try.pinned (OpenSpec.ofChange Rows.crcsFormsSpec) :=
  OpenClaim.holds_of_wide 3 Try.f3 rfl rfl rfl rfl rfl rfl rfl ⟨rfl, rfl, rfl, rfl, rfl⟩ rfl rfl rfl rfl rfl (by kernel_rfl) Try.func3 (by kernel_rfl)
    (of_decide_eq_true (by kernel_rfl)) (by unfold Func.isWrapper; first | (rw [if_pos (by decide +kernel)]; kernel_rfl) | (rw [if_neg (by decide +kernel)]; exact ⟨rfl, rfl⟩))
    (fun os started H enc _ => lifted os started H enc)
end Go.Proofs.Ytggjnjckhhkniaa.crcsForms
namespace Go.Proofs.Ytggjnjckhhkniaa
theorem crcsForms_holds : Rows.CrcsFormsSaid := crcsForms.over
end Go.Proofs.Ytggjnjckhhkniaa
