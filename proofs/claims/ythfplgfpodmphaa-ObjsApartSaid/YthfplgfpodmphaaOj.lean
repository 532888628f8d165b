/- fifo.Push, walked. -/
import Derived.Test.YthfplgfpodmphaaOi
import Derived.Test.YthfplgfpodmphaaMp
namespace Go.Proofs.Ythfplgfpodmphaa.Ob
open Go.RowKit Go.Proofs.YthfplgfpodmphaaW.PrintWords Go.Proofs.YthfplgfpodmphaaW.PrintLast Go.Proofs.YthfplgfpodmphaaW.PrintMore Go.Proofs.Ythfplgfpodmphaa.Ms
attribute [local go_sem] max2_int min2_int max_two min_two max_three min_three max_four min_four
set_option linter.unusedVariables false
set_option linter.unusedSimpArgs false
set_option maxRecDepth 100000
theorem F_block {α : Type} {d : Kd α} {W : World} {ok : Nat → Prop} {g : Nat} {cur : Array Value} {e : TypeId} {xs : List α} (hg : W.heap[g]? = some (.cells cur e (0, 0))) (hm : xs.length < 9223372036854775807) (hr : Reps (fun x c => Kd.FK d W ok x c) d.sz xs (cur.toList.take (xs.length * d.sz))) : Kd.F d W (fun k => ok k ∨ k = g) (some ⟨g, 0, none⟩) xs.length xs := by
 intro W' hW
 have hlt := (Array.getElem?_eq_some_iff.1 hg).1
 have hg' : W'.heap[g]? = some (.cells cur e (0, 0)) := (hW g (.inr rfl) hlt).trans hg
 refine ⟨rfl, by omega, fun _ => ⟨_, rfl, fun j p hj => ?_⟩⟩
 have hk : d.K W' p (((cur.toList.take (xs.length * d.sz)).drop (j * d.sz)).take d.sz) := hr.2 j p hj W' (fun k hk hlt => hW k (.inl hk) hlt)
 refine ⟨_, d.K_len hk, hk, fun i u hu => ?_⟩
 rw [add_plain, (cell_of_heap hg').1]
 rw [List.getElem?_take] at hu
 split at hu
 ·
  rw [List.getElem?_drop, List.getElem?_take] at hu
  split at hu
  ·
   rw [Array.getElem?_toList] at hu
   exact hu
  ·
   cases hu
 ·
  cases hu
theorem FK_slice {W : World} {ok : Nat → Prop} {A : Option Addr} {c : Nat} {v : List Int} (h : Kd.F kb W ok A v.length v) (hc : v.length ≤ c) : Kd.FK kq W ok v [.slice A v.length c] := fun W' hW => ⟨A, c, rfl, hc, h W' hW⟩
theorem FK_int {W : World} {ok : Nat → Prop} {x : Int} : Kd.FK ki W ok x [.int .i64 x] := fun W' hW => rfl
/-- append of one to a row that is as long as it may be: a new row. -/
theorem app1 {α : Type} (d : Kd α) (W : World) (t e : TypeId) (z : Value) (sz by_ : Nat) (hsz : d.sz = sz) (ht : Try.prog.underlying t = some (.slice e)) (hinfo : (Try.prog.info? e).map (fun i => (i.zero, i.size, i.bytes)) = some (some z, sz, by_)) (hby : 0 < by_) (hby2 : by_ ≤ 1000)
  (ok : Nat → Prop) (A : Option Addr) (l : List α) (hF : Kd.F d W ok A l.length l) (hn : l.length < 1000000) (hA : A = none → l.length = 0)
  (xa : Addr) (xcap : Nat) (x : α) (xc : List Value) (hx : ∀ j v, xc[j]? = some v → W.cell? (xa.add j) = some v) (hK : Kd.FK d W ok x xc) :
  ∃ g c' W', (∀ ty, (Builtin.append_ #[t, t] ty #[.slice A l.length l.length, .slice (some xa) 1 xcap]).run Try.prog W = .ok (.slice (some ⟨g, 0, none⟩) (l.length + 1) c') W') ∧ l.length + 1 ≤ c' ∧ Below W.heap.size W W' ∧ Kd.F d W' (fun k => ok k ∨ W.heap.size ≤ k) (some ⟨g, 0, none⟩) (l ++ [x]).length (l ++ [x]) := by
 have hxl : xc.length = sz := by rw [← hsz]; exact d.K_len (Foot.now hK)
 have hmove : ∀ {y c} (o : Obj), Kd.FK d W ok y c → Kd.FK d (W.drew.alloc o) ok y c := fun o h => Foot.step h (fun k _ hlt => heap_alloc_lt W.drew _ k hlt)
 cases A with
 | none =>
  have h0 := hA rfl
  obtain rfl : l = [] := List.eq_nil_of_length_eq_zero h0
  obtain ⟨iv, hi, hzz⟩ := Option.map_eq_some_iff.1 hinfo
  simp only [Prod.mk.injEq] at hzz
  obtain ⟨hz, h5, h56⟩ := hzz
  have hb1 : 1 * iv.bytes ≤ 281474976710656 := by rw [h56]; omega
  refine ⟨W.heap.size, _, _, fun ty => run_append_nil (P := Try.prog) W t ty e iv z ht hi hz xa 1 xcap xc (by rw [hxl, h5]; omega) hx (by decide) (by decide) hb1, grownCap_ge _ _ _ _, below_alloc (below_drew (Below.refl _ _)) _, ?_⟩
  refine Kd.F_mono (F_block (heap_alloc_self W.drew _) (by simp) ?_) (fun k hk => hk.elim .inl (fun h => .inr (by rw [h]; exact Nat.le_refl _)))
  have ht : (xc.toArray ++ Builtin.zeroCells z.cells (grownCap W 1 0 e - 1)).toList.take (1 * d.sz) = xc := by
   rw [show (xc.toArray ++ Builtin.zeroCells z.cells (grownCap W 1 0 e - 1)).toList = xc ++ (Builtin.zeroCells z.cells (grownCap W 1 0 e - 1)).toList from by simp, Nat.one_mul, hsz, ← hxl, List.take_left']
   rfl
  show Reps _ _ [x] (List.take (1 * d.sz) _)
  rw [ht]
  exact reps_one (hmove _ hK) (by rw [hxl, hsz])
 | some ad =>
  obtain ⟨olds, hr, ho⟩ := (Kd.F_rows hF).inner_
  have hol : olds.length = l.length * sz := by rw [hr.1, hsz]
  have h1000 : (l.length + 1) * by_ ≤ (l.length + 1) * 1000 := Nat.mul_le_mul_left _ hby2
  refine ⟨W.heap.size, _, _, fun ty => app_grow W t ty e z sz by_ ht hinfo ad l.length l.length olds hol ho xa 1 xcap xc (by rw [hxl]; omega) hx (by omega) (by omega) hby, grownCap_ge _ _ _ _, below_alloc (below_drew (Below.refl _ _)) _, ?_⟩
  refine Kd.F_mono (F_block (heap_alloc_self W.drew _) (by simp; omega) ?_) (fun k hk => hk.elim .inl (fun h => .inr (by rw [h]; exact Nat.le_refl _)))
  have h2 : (olds ++ xc).length = (l ++ [x]).length * d.sz := by simp [hol, hxl, hsz, Nat.add_mul]
  rw [take_app3 olds xc _ _ h2]
  exact reps_app (hr.imp_ (fun _ _ h => hmove _ h)) (reps_one (hmove _ hK) (by rw [hxl, hsz]))
set_option maxHeartbeats 1000000 in
theorem push_long (A0 : Option Addr) (c0 : Nat) (l0 : List (List Int)) (A1 : Option Addr) (c1 : Nat) (l1 : List Int) (w : World) (hr0 : Kd.C kq w A0 l0.length l0) (hc0 : l0.length ≤ c0) (hb0 : l0.length < 1000000) (hv : ∀ x ∈ l0, x.length < 1000000) (hr1 : Kd.C kb w A1 l1.length l1) (hc1 : l1.length ≤ c1) (hb1 : l1.length < 1000000) (h16 : 16 < l1.length) :
  Calls Try.prog 32 #[.slice A0 l0.length c0, .slice A1 l1.length c1] w (T2 kq w l0 ⟨1, [], 0⟩) := by
 have HR0 := Aside0.mk hr0
 have HC0 := Aside0.mk hc0
 have HN := Aside0.mk hb0
 have HV := Aside0.mk hv
 have HR1 := Aside0.mk hr1
 have HC1 := Aside0.mk hc1
 have HN1 := Aside0.mk hb1
 have dc1 : decide ((16 : Int) < (l1.length : Int)) = true := decide_eq_true (by omega)
 clear hr0 hc0 hb0 hv hr1 hc1 hb1 h16
 have HB := Aside0.mk (Below.refl w.heap.size w)
 go_enter Try.func32, Try.ntmps32
 go_wp2_with fail
 obtain ⟨V0, hV0⟩ : ∃ V_, V_ = (w.alloc (.cells #[.int .i64 0, .slice none 0 0, .int .i64 0] 34)) := ⟨_, rfl⟩
 rw [← hV0]
 have hb_ : Below w.heap.size w V0 := by rw [hV0]; exact (below_alloc (Below.refl _ _) (.cells #[.int .i64 0, .slice none 0 0, .int .i64 0] 34))
 have K0 : Aside0 (V0.heap[w.heap.size]? = some (.cells #[.int .i64 0, .slice none 0 0, .int .i64 0] 34 (0, 0))) := Aside0.mk (by have h_ := heap_alloc_self w (.cells #[.int .i64 0, .slice none 0 0, .int .i64 0] 34); rw [hV0]; simpa using h_)
 have SV0 : Aside0 (V0.heap.size = w.heap.size + 1) := Aside0.mk (by rw [hV0]; simp)
 clear hV0
 replace HB := Aside0.mk (below_then HB.out HB.out.size hb_)
 clear hb_
 refine (still74 A0 c0 l0 V0 (Kd.C_below HR0.out HB.out) HC0.out HN.out HV.out).mono ?_
 rintro e w1 ⟨P0, rfl, hF, hA, hb_⟩
 have HA := Aside0.mk hA
 have S1 := Aside0.mk hb_.size
 obtain ⟨b1, hb1⟩ : ∃ b_, b_ = V0.heap.size := ⟨_, rfl⟩
 rw [← hb1] at hF
 have F0 := Aside0.mk hF
 have Zb1 := Aside0.mk (show w.heap.size + 1 ≤ b1 by have := SV0.out; omega)
 clear hb1 hF hA
 replace HB := Aside0.mk (below_then HB.out HB.out.size hb_)
 replace K0 := Aside0.mk (blk_keep K0.out hb_)
 clear hb_
 obtain ⟨x0, x1, x2, x3⟩ := cells3 K0.out
 have x30 := x3 0
 have x31 := x3 1
 have x32 := x3 2
 clear x3
 go_wp2_with fail
 clear x0 x1 x2 x30 x31 x32
 obtain ⟨V2, hV2⟩ : ∃ V_, V_ = (((w1.setCell ⟨w.heap.size, 0, none⟩ (.int .i64 1)).setCell ⟨w.heap.size, 1, none⟩ (.slice none 0 0)).setCell ⟨w.heap.size, 2, none⟩ (.int .i64 0)) := ⟨_, rfl⟩
 rw [← hV2]
 have hge_ : w.heap.size ≤ w.heap.size := by have z_ := Zb1.out; omega
 have hst_ : St w.heap.size w (w.heap.size) 34 #[.int .i64 1, .slice none 0 0, .int .i64 0] w1 V2 := by rw [hV2]; exact (St.next (St.next (St.first HB.out hge_ K0.out 0 _ rfl) hge_ 1 _ rfl) hge_ 2 _ rfl)
 replace HB := Aside0.mk hst_.1
 replace K0 := Aside0.mk hst_.2.1
 replace F0 := Aside0.mk (Kd.F_step F0.out (fun k_ hk_ _ => hst_.2.2.1 k_ (by have hk2_ : b1 ≤ k_ := hk_; have z_ := Zb1.out; omega)))
 have SV2 := Aside0.mk hst_.2.2.2
 clear hV2 hst_ hge_
 refine bodyPost_ret (results_tc rfl _ _ w.heap.size 34 #[.int .i64 1, .slice none 0 0, .int .i64 0] (0, 0) _ rfl K0.out Try.underlying34 rfl (by kernel_rfl)) rfl ?_
 exact ⟨P0, _, none, 0, rfl, Nat.le_refl _, Kd.F_mono F0.out (fun k hk => by have h2 : b1 ≤ k := hk; have := Zb1.out; show w.heap.size ≤ k; omega), Nat.le_refl _, Kd.F_nil _ _ _, HB.out⟩
set_option maxHeartbeats 1000000 in
theorem push_full (A0 : Option Addr) (c0 : Nat) (l0 : List (List Int)) (A1 : Option Addr) (c1 : Nat) (l1 : List Int) (w : World) (hr0 : Kd.C kq w A0 l0.length l0) (hc0 : l0.length ≤ c0) (hb0 : l0.length < 1000000) (hv : ∀ x ∈ l0, x.length < 1000000) (hr1 : Kd.C kb w A1 l1.length l1) (hc1 : l1.length ≤ c1) (hb1 : l1.length < 1000000) (h16 : ¬ 16 < l1.length) (h8 : 8 ≤ l0.length) :
  Calls Try.prog 32 #[.slice A0 l0.length c0, .slice A1 l1.length c1] w (T2 kq w l0 ⟨3, [], 0⟩) := by
 have HR0 := Aside0.mk hr0
 have HC0 := Aside0.mk hc0
 have HN := Aside0.mk hb0
 have HV := Aside0.mk hv
 have HR1 := Aside0.mk hr1
 have HC1 := Aside0.mk hc1
 have HN1 := Aside0.mk hb1
 have dc1 : decide ((16 : Int) < (l1.length : Int)) = false := decide_eq_false (by omega)
 have dc2 : decide ((8 : Int) ≤ (l0.length : Int)) = true := decide_eq_true (by omega)
 clear hr0 hc0 hb0 hv hr1 hc1 hb1 h16 h8
 have HB := Aside0.mk (Below.refl w.heap.size w)
 go_enter Try.func32, Try.ntmps32
 go_wp2_with fail
 obtain ⟨V0, hV0⟩ : ∃ V_, V_ = (w.alloc (.cells #[.int .i64 0, .slice none 0 0, .int .i64 0] 34)) := ⟨_, rfl⟩
 rw [← hV0]
 have hb_ : Below w.heap.size w V0 := by rw [hV0]; exact (below_alloc (Below.refl _ _) (.cells #[.int .i64 0, .slice none 0 0, .int .i64 0] 34))
 have K0 : Aside0 (V0.heap[w.heap.size]? = some (.cells #[.int .i64 0, .slice none 0 0, .int .i64 0] 34 (0, 0))) := Aside0.mk (by have h_ := heap_alloc_self w (.cells #[.int .i64 0, .slice none 0 0, .int .i64 0] 34); rw [hV0]; simpa using h_)
 have SV0 : Aside0 (V0.heap.size = w.heap.size + 1) := Aside0.mk (by rw [hV0]; simp)
 clear hV0
 replace HB := Aside0.mk (below_then HB.out HB.out.size hb_)
 clear hb_
 refine (still74 A0 c0 l0 V0 (Kd.C_below HR0.out HB.out) HC0.out HN.out HV.out).mono ?_
 rintro e w1 ⟨P0, rfl, hF, hA, hb_⟩
 have HA := Aside0.mk hA
 have S1 := Aside0.mk hb_.size
 obtain ⟨b1, hb1⟩ : ∃ b_, b_ = V0.heap.size := ⟨_, rfl⟩
 rw [← hb1] at hF
 have F0 := Aside0.mk hF
 have Zb1 := Aside0.mk (show w.heap.size + 1 ≤ b1 by have := SV0.out; omega)
 clear hb1 hF hA
 replace HB := Aside0.mk (below_then HB.out HB.out.size hb_)
 replace K0 := Aside0.mk (blk_keep K0.out hb_)
 clear hb_
 obtain ⟨x0, x1, x2, x3⟩ := cells3 K0.out
 have x30 := x3 0
 have x31 := x3 1
 have x32 := x3 2
 clear x3
 go_wp2_with fail
 clear x0 x1 x2 x30 x31 x32
 obtain ⟨V2, hV2⟩ : ∃ V_, V_ = (((w1.setCell ⟨w.heap.size, 0, none⟩ (.int .i64 3)).setCell ⟨w.heap.size, 1, none⟩ (.slice none 0 0)).setCell ⟨w.heap.size, 2, none⟩ (.int .i64 0)) := ⟨_, rfl⟩
 rw [← hV2]
 have hge_ : w.heap.size ≤ w.heap.size := by have z_ := Zb1.out; omega
 have hst_ : St w.heap.size w (w.heap.size) 34 #[.int .i64 3, .slice none 0 0, .int .i64 0] w1 V2 := by rw [hV2]; exact (St.next (St.next (St.first HB.out hge_ K0.out 0 _ rfl) hge_ 1 _ rfl) hge_ 2 _ rfl)
 replace HB := Aside0.mk hst_.1
 replace K0 := Aside0.mk hst_.2.1
 replace F0 := Aside0.mk (Kd.F_step F0.out (fun k_ hk_ _ => hst_.2.2.1 k_ (by have hk2_ : b1 ≤ k_ := hk_; have z_ := Zb1.out; omega)))
 have SV2 := Aside0.mk hst_.2.2.2
 clear hV2 hst_ hge_
 refine bodyPost_ret (results_tc rfl _ _ w.heap.size 34 #[.int .i64 3, .slice none 0 0, .int .i64 0] (0, 0) _ rfl K0.out Try.underlying34 rfl (by kernel_rfl)) rfl ?_
 exact ⟨P0, _, none, 0, rfl, Nat.le_refl _, Kd.F_mono F0.out (fun k hk => by have h2 : b1 ≤ k := hk; have := Zb1.out; show w.heap.size ≤ k; omega), Nat.le_refl _, Kd.F_nil _ _ _, HB.out⟩
set_option maxHeartbeats 1000000 in
theorem push_new (A0 : Option Addr) (c0 : Nat) (l0 : List (List Int)) (A1 : Option Addr) (c1 : Nat) (l1 : List Int) (w : World) (hr0 : Kd.C kq w A0 l0.length l0) (hc0 : l0.length ≤ c0) (hb0 : l0.length < 1000000) (hv : ∀ x ∈ l0, x.length < 1000000) (hr1 : Kd.C kb w A1 l1.length l1) (hc1 : l1.length ≤ c1) (hb1 : l1.length < 1000000) (h16 : ¬ 16 < l1.length) (h8 : ¬ 8 ≤ l0.length) :
  Calls Try.prog 32 #[.slice A0 l0.length c0, .slice A1 l1.length c1] w (T2 kq w (l0 ++ [l1]) ⟨0, [], (l0.length : Int) + 1⟩) := by
 have HR0 := Aside0.mk hr0
 have HC0 := Aside0.mk hc0
 have HN := Aside0.mk hb0
 have HV := Aside0.mk hv
 have HR1 := Aside0.mk hr1
 have HC1 := Aside0.mk hc1
 have HN1 := Aside0.mk hb1
 have dc1 : decide ((16 : Int) < (l1.length : Int)) = false := decide_eq_false (by omega)
 have dc2 : decide ((8 : Int) ≤ (l0.length : Int)) = false := decide_eq_false (by omega)
 have e3 : IntKind.i64.wrap ((l0.length : Int) + 1) = (l0.length : Int) + 1 := by rw [IntKind.wrap_i64]; omega
 have H8 := Aside0.mk h8
 clear hr0 hc0 hb0 hv hr1 hc1 hb1 h16 h8
 have HB := Aside0.mk (Below.refl w.heap.size w)
 go_enter Try.func32, Try.ntmps32
 go_wp2_with fail
 obtain ⟨V0, hV0⟩ : ∃ V_, V_ = (w.alloc (.cells #[.int .i64 0, .slice none 0 0, .int .i64 0] 34)) := ⟨_, rfl⟩
 rw [← hV0]
 have hb_ : Below w.heap.size w V0 := by rw [hV0]; exact (below_alloc (Below.refl _ _) (.cells #[.int .i64 0, .slice none 0 0, .int .i64 0] 34))
 have K0 : Aside0 (V0.heap[w.heap.size]? = some (.cells #[.int .i64 0, .slice none 0 0, .int .i64 0] 34 (0, 0))) := Aside0.mk (by have h_ := heap_alloc_self w (.cells #[.int .i64 0, .slice none 0 0, .int .i64 0] 34); rw [hV0]; simpa using h_)
 have SV0 : Aside0 (V0.heap.size = w.heap.size + 1) := Aside0.mk (by rw [hV0]; simp)
 clear hV0
 replace HB := Aside0.mk (below_then HB.out HB.out.size hb_)
 clear hb_
 refine (still74 A0 c0 l0 V0 (Kd.C_below HR0.out HB.out) HC0.out HN.out HV.out).mono ?_
 rintro e w1 ⟨P0, rfl, hF, hA, hb_⟩
 have HA := Aside0.mk hA
 have S1 := Aside0.mk hb_.size
 obtain ⟨b1, hb1⟩ : ∃ b_, b_ = V0.heap.size := ⟨_, rfl⟩
 rw [← hb1] at hF
 have F0 := Aside0.mk hF
 have Zb1 := Aside0.mk (show w.heap.size + 1 ≤ b1 by have := SV0.out; omega)
 clear hb1 hF hA
 replace HB := Aside0.mk (below_then HB.out HB.out.size hb_)
 replace K0 := Aside0.mk (blk_keep K0.out hb_)
 clear hb_
 obtain ⟨x0, x1, x2, x3⟩ := cells3 K0.out
 have x30 := x3 0
 have x31 := x3 1
 have x32 := x3 2
 clear x3
 go_wp2_with fail
 refine (clone18 A1 c1 l1 w1 (Kd.C_below HR1.out HB.out) HC1.out (by have := HN1.out; omega)).mono ?_
 rintro e w2 ⟨v2, rfl, hR, hb_⟩
 obtain ⟨P1, p1, rfl⟩ := Kd.R_slice hR
 have L1 := Aside0.mk (Kd.R_reads' hR).2.1
 have F1 := Aside0.mk (Kd.F_mono (F_of_R hR) (fun k hk => (show w.heap.size + 1 ≤ k from by have h2 : w1.heap.size ≤ k := hk; have := S1.out; have := SV0.out; omega)))
 have F0 := Aside0.mk (Kd.F_mono F0.out (fun k hk => (show w.heap.size + 1 ≤ k from by have h2 : b1 ≤ k := hk; have := Zb1.out; omega)))
 clear hR
 clear x0 x1 x2 x30 x31 x32
 replace HB := Aside0.mk (below_then HB.out HB.out.size hb_)
 replace K0 := Aside0.mk (blk_keep K0.out hb_)
 replace F0 := Aside0.mk (Kd.F_below F0.out hb_)
 have S2 := Aside0.mk hb_.size
 clear hb_
 go_wp2_with (
  (with_reducible refine gate_builtin (b := .append) (xs := #[.tmp 20, .tmp 23]) rfl ?_)
  at_builtin
  obtain ⟨V3, hV3⟩ : ∃ V_, V_ = (w2.alloc (.cells #[.slice P1 l1.length p1] 22)) := ⟨_, rfl⟩
  rw [← hV3]
  have hb_ : Below w2.heap.size w2 V3 := by rw [hV3]; exact (below_alloc (Below.refl _ _) (.cells #[.slice P1 l1.length p1] 22))
  have K1 : Aside0 (V3.heap[w2.heap.size]? = some (.cells #[.slice P1 l1.length p1] 22 (0, 0))) := Aside0.mk (by have h_ := heap_alloc_self w2 (.cells #[.slice P1 l1.length p1] 22); rw [hV3]; simpa using h_)
  have SV3 : Aside0 (V3.heap.size = w2.heap.size + 1) := Aside0.mk (by rw [hV3]; simp)
  clear hV3
  replace HB := Aside0.mk (below_then HB.out HB.out.size hb_)
  replace K0 := Aside0.mk (blk_keep K0.out hb_)
  replace F0 := Aside0.mk (Kd.F_below F0.out hb_)
  replace F1 := Aside0.mk (Kd.F_below F1.out hb_)
  clear hb_
  obtain ⟨g, c9, W4, hrun, hc9, hb_, hF9⟩ := app1 kq V3 28 22 (.slice none 0 0) 1 24 rfl Try.underlying28 info22 (by decide) (by decide) _ P0 l0 F0.out HN.out HA.out ⟨w2.heap.size, 0, none⟩ 1 l1 [.slice P1 l1.length p1] (fun j v hj => by rw [add_plain, (cell_of_heap K1.out).1, ← hj, ← Array.getElem?_toList]) (FK_slice F1.out L1.out)
  have HR := Aside0.mk hrun
  have HC9 := Aside0.mk hc9
  have F9 := Aside0.mk (Kd.F_mono hF9 (fun k hk => hk.elim id (fun h => (show w.heap.size + 1 ≤ k from by have := S1.out; have := S2.out; have := SV3.out; have := SV0.out; omega))))
  clear hrun hc9 hF9
  clear K1
  replace HB := Aside0.mk (below_then HB.out HB.out.size hb_)
  replace K0 := Aside0.mk (blk_keep K0.out hb_)
  replace F0 := Aside0.mk (Kd.F_below F0.out hb_)
  replace F1 := Aside0.mk (Kd.F_below F1.out hb_)
  clear hb_
  obtain ⟨x0, x1, x2, x3⟩ := cells3 K0.out
  have x30 := x3 0
  have x31 := x3 1
  have x32 := x3 2
  clear x3
  refine Lib.wpList_append_run _ rfl _ _ _ _ rfl _ _ rfl rfl _ _ (HR.out _) ?_)
 clear x0 x1 x2 x30 x31 x32
 obtain ⟨V5, hV5⟩ : ∃ V_, V_ = (((W4.setCell ⟨w.heap.size, 0, none⟩ (.int .i64 0)).setCell ⟨w.heap.size, 1, none⟩ (.slice none 0 0)).setCell ⟨w.heap.size, 2, none⟩ (.int .i64 ((l0.length : Int) + 1))) := ⟨_, rfl⟩
 rw [← hV5]
 have hge_ : w.heap.size ≤ w.heap.size := by omega
 have hst_ : St w.heap.size w (w.heap.size) 34 #[.int .i64 0, .slice none 0 0, .int .i64 ((l0.length : Int) + 1)] W4 V5 := by rw [hV5]; exact (St.next (St.next (St.first HB.out hge_ K0.out 0 _ rfl) hge_ 1 _ rfl) hge_ 2 _ rfl)
 replace HB := Aside0.mk hst_.1
 replace K0 := Aside0.mk hst_.2.1
 replace F9 := Aside0.mk (Kd.F_step F9.out (fun k_ hk_ _ => hst_.2.2.1 k_ (by have hk2_ : w.heap.size + 1 ≤ k_ := hk_; omega)))
 have SV5 := Aside0.mk hst_.2.2.2
 clear hV5 hst_ hge_
 refine bodyPost_ret (results_tc rfl _ _ w.heap.size 34 #[.int .i64 0, .slice none 0 0, .int .i64 ((l0.length : Int) + 1)] (0, 0) _ rfl K0.out Try.underlying34 rfl (by kernel_rfl)) rfl ?_
 refine ⟨some ⟨g, 0, none⟩, c9, none, 0, by rw [List.length_append]; rfl, by rw [List.length_append]; exact HC9.out, Kd.F_mono F9.out (fun k hk => by have h2 : w.heap.size + 1 ≤ k := hk; show w.heap.size ≤ k; omega), Nat.le_refl _, Kd.F_nil _ _ _, HB.out⟩
theorem push32 (A0 : Option Addr) (c0 : Nat) (l0 : List (List Int)) (A1 : Option Addr) (c1 : Nat) (l1 : List Int) (w : World) (hr0 : Kd.C kq w A0 l0.length l0) (hc0 : l0.length ≤ c0) (hb0 : l0.length < 1000000) (hv : ∀ x ∈ l0, x.length < 1000000) (hr1 : Kd.C kb w A1 l1.length l1) (hc1 : l1.length ≤ c1) (hb1 : l1.length < 1000000) : Calls Try.prog 32 #[.slice A0 l0.length c0, .slice A1 l1.length c1] w (T2 kq w (pushR l0 l1).1 (pushR l0 l1).2) := by
 unfold pushR
 split
 ·
  exact push_long A0 c0 l0 A1 c1 l1 w hr0 hc0 hb0 hv hr1 hc1 hb1 (by assumption)
 ·
  split
  ·
   exact push_full A0 c0 l0 A1 c1 l1 w hr0 hc0 hb0 hv hr1 hc1 hb1 (by assumption) (by assumption)
  ·
   exact push_new A0 c0 l0 A1 c1 l1 w hr0 hc0 hb0 hv hr1 hc1 hb1 (by assumption) (by assumption)
end Go.Proofs.Ythfplgfpodmphaa.Ob
