/- SessOwn: a table that comes of another is its own, and its results, too: for every row of whole numbers that fits in memory. -/
import Derived.Lib.SliceRun
import Derived.Outline
import Derived.Lib.SlBytesConst
import Derived.Test.YtjpgnipjgonplaaRows
import Derived.WalkKit
import Derived.ProofKit
import Derived.OpenShut
import Derived.ShutString
import Derived.ChangeOld
import Derived.Below
import Derived.SizedLaws
import Derived.Test.YtjpgnipjgonplaaWSized
import Derived.Test.YtjpgnipjgonplaaSf
namespace Go.Proofs.Ytjpgnipjgonplaa.Ss
open Go.RowKit Go.Proofs.YtjpgnipjgonplaaW.PrintWords Go.Proofs.YtjpgnipjgonplaaW.PrintLast Go.Proofs.YtjpgnipjgonplaaW.PrintMore
attribute [local go_sem] max2_int min2_int max_two min_two max_three min_three max_four min_four
set_option linter.unusedVariables false
set_option linter.unusedSimpArgs false

theorem fi_lt (l : List S31) (s : Int) : ∀ j, j < fi l s → (rd_T31 l (j : Int)).f0 < s := by
  induction l with
  | nil => intro j hj; simp [fi] at hj
  | cons x l ih =>
    intro j hj
    by_cases hx : x.f0 < s
    · cases j with
      | zero => simpa [rd_T31] using hx
      | succ j =>
        have h1 : fi (x :: l) s = fi l s + 1 := by simp [fi, hx]
        have h2 : rd_T31 (x :: l) ((j + 1 : Nat) : Int) = rd_T31 l (j : Int) := by simp only [rd_T31, Int.toNat_natCast, List.getD_cons_succ]
        rw [h2]
        exact ih j (by omega)
    · have h1 : fi (x :: l) s = 0 := by simp [fi, hx]
      omega
theorem rd_eq (l : List S31) (j : Nat) : rd_T31 l (j : Int) = (l[j]?).getD z31 := by simp [rd_T31, List.getD_eq_getElem?_getD]
theorem putP_len (l : List S31) (s : Int) (x : S31) : (putP l s x).length ≤ l.length + 1 := by
  have := fi_le l s
  unfold putP
  split
  · simp
  · simp; omega
theorem putP_mem (l : List S31) (s : Int) (x y : S31) (h : y ∈ putP l s x) : y ∈ l ∨ y = x := by
  unfold putP at h
  split at h
  · exact List.mem_or_eq_of_mem_set h
  · rcases List.mem_append.1 h with h | h
    · exact .inl (List.mem_of_mem_take h)
    · rcases List.mem_cons.1 h with h | h
      · exact .inr h
      · exact .inl (List.mem_of_mem_drop h)
theorem putP_at (l : List S31) (s : Int) (x : S31) (hx : x.f0 = s) : fi (putP l s x) s = fi l s ∧ fi l s < (putP l s x).length ∧ rd_T31 (putP l s x) (fi l s : Int) = x := by
  have hle := fi_le l s
  have hk : fi l s < (putP l s x).length ∧ (putP l s x)[fi l s]? = some x ∧ ∀ j, j < fi l s → (putP l s x)[j]? = l[j]? := by
    unfold putP
    split
    · rename_i ht
      have hlt : fi l s < l.length := by simp [there] at ht; exact ht.1
      exact ⟨by rw [List.length_set]; exact hlt, by rw [List.getElem?_set_self hlt], fun j hj => List.getElem?_set_ne (by omega)⟩
    · have hl : (l.take (fi l s)).length = fi l s := by rw [List.length_take]; omega
      refine ⟨by simp; omega, ?_, fun j hj => ?_⟩
      · rw [List.getElem?_append_right (by omega), hl, Nat.sub_self]
        rfl
      · rw [List.getElem?_append_left (by omega), List.getElem?_take, if_pos hj]
  have h3 : rd_T31 (putP l s x) (fi l s : Int) = x := by rw [rd_eq, hk.2.1]; rfl
  refine ⟨fi_of _ _ _ (Nat.le_of_lt hk.1) (fun j hj => ?_) (.inr ?_), hk.1, h3⟩
  · rw [rd_eq, hk.2.2 j hj, ← rd_eq]
    exact fi_lt l s j hj
  · rw [h3, hx]
    exact Int.le_refl s
theorem look_put (l : List S31) (s q : Int) (r : S26) (h1 : one s = true) (h2 : one q = true) : lookR (putP l s ⟨s, q, r⟩) s q = (r, 1) := by
  obtain ⟨ha, hb, hc⟩ := putP_at l s ⟨s, q, r⟩ rfl
  have ht : there (putP l s ⟨s, q, r⟩) s = true := by rw [there, ha, hc]; simp [hb]
  unfold lookR
  rw [h1, h2, ht, ha, hc, if_neg (by simp), if_neg (by simp), if_neg (Int.lt_irrefl q), if_neg (Int.lt_irrefl q)]
def so (l : List S31) (i : Nat) : Prop := l.length ≤ i ∧ ∀ x ∈ l, x.f2.f1.length < 1000
theorem so_put (l : List S31) (i : Nat) (s q : Int) (r : S26) (h : so l i) (hr : r.f1.length < 1000) : so (putP l s ⟨s, q, r⟩) (i + 1) := by
  refine ⟨by have := putP_len l s ⟨s, q, r⟩; have := h.1; omega, fun x hx => ?_⟩
  rcases putP_mem _ _ _ _ hx with hx | rfl
  · exact h.2 x hx
  · exact hr
theorem and7 (v : Int) : ∃ d : Nat, Go.bits .and .i64 v 7 = (d : Int) ∧ d ≤ 7 := by
  have e : (7 : Int) = ((7 : Nat) : Int) := rfl
  simp only [Go.bits, e, BitVec.ofInt_natCast, BitVec.toNat_and]
  have h : (BitVec.ofInt IntKind.i64.bits v).toNat &&& (BitVec.ofNat IntKind.i64.bits 7).toNat < 2 ^ 3 := Nat.and_lt_two_pow _ (by decide)
  generalize (BitVec.ofInt IntKind.i64.bits v).toNat &&& (BitVec.ofNat IntKind.i64.bits 7).toNat = t at h ⊢
  exact ⟨t, by rw [IntKind.wrap_i64]; omega, by omega⟩
theorem row1 {w : World} {g : Nat} {v : Int} (h : w.cell? ⟨g, 0, none⟩ = some (.int .u8 v)) : Kd.C (Kd.int .u8) w (some ⟨g, 0, none⟩) 1 [v] := by
  refine ⟨rfl, by decide, fun _ => ⟨⟨g, 0, none⟩, rfl, fun j p hj => ?_⟩⟩
  cases j with
  | zero =>
    obtain rfl := Option.some.inj hj
    refine ⟨[.int .u8 v], rfl, rfl, fun i u hu => ?_⟩
    cases i with
    | zero =>
      obtain rfl := Option.some.inj hu
      rw [add_plain]
      exact h
    | succ i => simp at hu
  | succ j => simp at hj
theorem C_of_raw {w : World} {A : Option Addr} {n : Nat} {rows : List (List Value)} {l : List S31} (h : Kd.C (Kd.raw 5) w A n rows) (hl : l.length = n) (hk : ∀ (j : Nat) (x : S31) (c : List Value), l[j]? = some x → rows[j]? = some c → k31.K w x c) : Kd.C k31 w A n l := by
  obtain ⟨h1, h2, h3⟩ := h
  refine ⟨hl, h2, fun h0 => ?_⟩
  obtain ⟨ad, e, hc⟩ := h3 h0
  refine ⟨ad, e, fun j x hj => ?_⟩
  have hjl := (List.getElem?_eq_some_iff.1 hj).1
  have hr : rows[j]? = some rows[j] := List.getElem?_eq_getElem (by omega)
  obtain ⟨c, hc1, hc2, hc3⟩ := hc j _ hr
  have hK := hk j x _ hj hr
  refine ⟨c, hc1, ?_, hc3⟩
  rw [show c = rows[j] from hc2.1]
  exact hK
theorem C_cast' {w : World} {A : Option Addr} {n m : Nat} {l : List (List Value)} (h : Kd.C (Kd.raw 5) w A n l) (e : n = m) : Kd.C (Kd.raw 5) w A m l := e ▸ h
theorem C_cast {w : World} {A : Option Addr} {n m : Nat} {l : List S31} (h : Kd.C k31 w A n l) (e : n = m) : Kd.C k31 w A m l := e ▸ h
/-- What is kept while the copies are turned. -/
def OW (W1 : World) (g n gr cr k10 : Nat) (x : Int) (w' : World) : Prop := (∃ cur, w'.heap[g]? = some (.cells cur 31 (0, 0)) ∧ n * 5 ≤ cur.size) ∧ (∃ row, w'.heap[gr]? = some (.cells row 5 (0, 0)) ∧ row[0]? = some (.int .u8 x)) ∧ w'.heap[k10]? = some (.cells #[.int .i64 0, .slice (some ⟨gr, 0, none⟩) 1 cr, .int .i64 0] 26 (0, 0)) ∧ Below W1.heap.size W1 w'
theorem own1 {w : World} {base : Nat} {ok : Nat → Prop} {v : Value} {x : Int} (h : Kd.R (Kd.int .u8) 5 w base ok v [x]) : ∃ g cap row, v = .slice (some ⟨g, 0, none⟩) 1 cap ∧ base ≤ g ∧ w.heap[g]? = some (.cells row 5 (0, 0)) ∧ row[0]? = some (.int .u8 x) := by
  obtain ⟨_, inner, hown, hreps⟩ := h
  rcases hown.2 with ⟨_, h0⟩ | ⟨g, cap, cur, h', hb', hg', h1, h2, h3, h4⟩
  · simp at h0
  · refine ⟨g, cap, cur, h', hb', hg', ?_⟩
    have h5 := hreps.2 0 x rfl
    have h6 : inner[0]? = some (.int .u8 x) := by
      have h7 : (inner.drop (0 * 1)).take 1 = [.int .u8 x] := h5
      have h8 := congrArg (fun t : List Value => t[0]?) h7
      simpa [List.getElem?_take] using h8
    rw [← h4, List.getElem?_take] at h6
    split at h6
    · rw [Array.getElem?_toList] at h6
      exact h6
    · cases h6
theorem OW_u {W1 : World} {g n gr cr k10 j : Nat} {x : Int} {w' : World} (h : OW W1 g n gr cr k10 x w') (h1 : W1.heap.size ≤ g) (h2 : g ≠ gr) (h3 : g ≠ k10) (u : Value) : OW W1 g n gr cr k10 x (w'.setCell ⟨g, j, none⟩ u) := by
  obtain ⟨⟨cur, a1, a2⟩, ⟨row, b1, b2⟩, c1, d1⟩ := h
  refine ⟨⟨_, heap_set_same u a1, by simpa using a2⟩, ⟨row, (Below.heap_setCell w' ⟨g, j, none⟩ u gr (Ne.symm h2)).trans b1, b2⟩, (Below.heap_setCell w' ⟨g, j, none⟩ u k10 (Ne.symm h3)).trans c1, d1.setCell (p := ⟨g, j, none⟩) h1 _⟩
theorem OW_r {W1 : World} {g n gr cr k10 : Nat} {x y : Int} {w' : World} (h : OW W1 g n gr cr k10 x w') (h1 : W1.heap.size ≤ gr) (h2 : g ≠ gr) (h3 : gr ≠ k10) : OW W1 g n gr cr k10 y (w'.setCell ⟨gr, 0, none⟩ (.int .u8 y)) := by
  obtain ⟨⟨cur, a1, a2⟩, ⟨row, b1, b2⟩, c1, d1⟩ := h
  refine ⟨⟨cur, (Below.heap_setCell w' ⟨gr, 0, none⟩ _ g h2).trans a1, a2⟩, ⟨_, heap_set_same _ b1, ?_⟩, (Below.heap_setCell w' ⟨gr, 0, none⟩ _ k10 (Ne.symm h3)).trans c1, d1.setCell (p := ⟨gr, 0, none⟩) h1 _⟩
  have hlt := (Array.getElem?_eq_some_iff.1 b2).1
  simp [hlt]
def RowI (w : World) (a : Option Addr) (n : Nat) : Prop := 0 < n → ∃ ad, a = some ad ∧ ∀ j, j < n → ∃ v, w.cell? (ad.add j) = some (.int .i64 v)
def WI (w : World) (i n : Nat) (A : Option Addr) (c : Nat) (w' : World) : Prop := ∃ l, so l i ∧ l.length = n ∧ n ≤ c ∧ Kd.C k31 w' A l.length l ∧ Below w.heap.size w w'
set_option maxHeartbeats 1000000 in
set_option maxRecDepth 100000 in
theorem own_calls (a : Option Addr) (la ca : Nat) (at' : Int) (w : World) (ha : RowI w a la) :
    Calls Try.prog 5 #[.slice a la ca, .int .i64 at'] w fun e w' => e = .returned (.bool true) ∧ Below w.heap.size w w' := by
  have HA := Aside0.mk ha
  clear ha
  go_enter Try.func5, Try.ntmps5
  go_wp2_with fail
  go_loopw [5, 6] (fun v5 v6 w' => ∃ (i n : Nat) (A : Option Addr) (c : Nat), v6 = .int .i64 i ∧ v5 = .slice A n c ∧ i ≤ 8 ∧ Aside0 (WI w i n A c w')) (fun _ v6 _ => 8 - (intOf v6).toNat)
  case atStart => exact ⟨0, 0, none, 0, rfl, rfl, by omega, ⟨⟨[], ⟨Nat.le_refl 0, fun _ h => by simp at h⟩, rfl, Nat.zero_le _, ⟨rfl, by decide, fun h => absurd h (by decide)⟩, Below.refl _ _⟩⟩⟩
  case round =>
    obtain ⟨i, n, A, c, rfl, rfl, hi, HI⟩ := hrel
    obtain ⟨l, hso, hn, hc, hC, hB⟩ := HI.out
    subst hn
    have HC := Aside0.mk hC
    have HB := Aside0.mk hB
    have Hc := Aside0.mk hc
    have HSO := Aside0.mk hso
    by_cases h1 : i < la
    · by_cases h3 : i < 8
      · obtain ⟨ad, rfl, hca⟩ := HA.out (by omega)
        obtain ⟨va, hva⟩ := hca i h1
        have k1 := (hB.cell (World.block_lt_of_cell? w _ hva)).trans hva
        obtain ⟨da, hda, hda7⟩ := and7 va
        have e1 : IntKind.i64.wrap ((da : Int) + 1) = (da : Int) + 1 := by rw [IntKind.wrap_i64]; omega
        clear hC hB hc hso hca HI hva
        go_wp2_with fail
        have hb1 : Below wr.heap.size wr (wr.alloc (.cells #[.int .u8 i] 5)) := below_alloc (Below.refl _ _) _
        have hv1 : (wr.alloc (.cells #[.int .u8 i] 5)).cell? ⟨wr.heap.size, 0, none⟩ = some (.int .u8 i) := by simp
        generalize wr.alloc (.cells #[.int .u8 i] 5) = W1 at hb1 hv1 ⊢
        have hl1 := HSO.out.1
        refine (put9 A c l ((da : Int) + 1) ((i : Int) + 1) ⟨0, [(i : Int)], i⟩ (some ⟨wr.heap.size, 0, none⟩) 1 W1 (Kd.C_below HC.out hb1) Hc.out (by omega) (fun x hx => by have := HSO.out.2 x hx; omega) (row1 hv1) (Nat.le_refl 1) (show 1 < 140737488355328 from by decide)).mono ?_
        rintro e w2 ⟨A', c', rfl, hc', hF, hb2⟩
        have hso2 := so_put l i ((da : Int) + 1) ((i : Int) + 1) ⟨0, [(i : Int)], i⟩ HSO.out (show 1 < 1000 from by decide)
        have HE := Aside0.mk (show WI w (i + 1) _ A' c' w2 from ⟨_, hso2, rfl, hc', Fr.C hF, below_then (below_then HB.out HB.out.size hb1) (by have := HB.out.size; have := hb1.size; omega) hb2⟩)
        clear hb1 hv1 hc' hF hb2 hso2 k1
        go_wp2_with fail
        go_roundw
        case rel => exact ⟨i + 1, _, A', c', by go_num, rfl, by omega, HE⟩
        case measure => simp [intOf]; omega
      · have e3 : decide ((i : Int) < 8) = false := decide_eq_false (by omega)
        clear hC hB hc hso HI
        have hdn : l.length < 1000000 := by have := HSO.out.1; omega
        obtain ⟨rows, hrl, hrc, hrk⟩ := C_raw HC.out
        have HRC := Aside0.mk hrc
        have HRK := Aside0.mk hrk
        have HRL := Aside0.mk hrl
        have HLN := Aside0.mk hdn
        obtain ⟨dt, hdt, hdt7⟩ := and7 at'
        have e4 : IntKind.i64.wrap ((dt : Int) + 1) = (dt : Int) + 1 := by rw [IntKind.wrap_i64]; omega
        clear hrc hrk hrl hdn
        have kc := fun (w : World) (C : Array Value) (n c : Nat) => Lib.run_convert_bytes_const (P := Try.prog) w 24 5 C n c Try.underlying24 Try.underlying5
        go_wp2_with (first | ((with_reducible refine gate_dst (N := 40) rfl ?_); refine Kd.R_lit (Kd.raw 5) _ 31 ?hg (N := 40) ?hd (xs := ([] : List (List Value))) (inner := []) (ok := fun _ => True) (okp := fun _ => True) ?hr ?hp (fun _ hk => hk) trivial (Below.refl _ _) (Nat.le_refl _) (by simp) ?_; (case hd => rfl); (case hg => rfl); (case hr => first | (go_simp; done) | (go_simp; rfl)); (case hp => exact (Reps.none _ _)); intro v1 w3 ho4 hb4 hg_ hnew_; clear hg_ hnew_; have HB3 := Aside0.mk hb4; have HO := Aside0.mk ho4; clear hb4 ho4) | ((with_reducible refine gate_builtin (b := .append) (xs := #[.tmp 40, .tmp 41]) rfl ?_); at_builtin; refine Kd.R_append_rows (Kd.raw 5) (w0 := wr) wr.heap.size rfl (.tmp 40) (.tmp 41) 22 31 (.agg #[(.int .i64 0), (.int .i64 0), (.int .i64 0), (.slice none 0 0), (.int .i64 0)]) 56 rfl Try.underlying22 info31 rfl (by decide) (by omega) v1 [] rows _ _ _ (fun _ => True) (fun _ => False) rfl rfl ?aO ?aR (fun _ _ h => h) (fun _ h => h.elim) ?aF ?aB ?aS ?aL ?_; (case aR => exact Kd.C_below HRC.out HB3.out); (case aB => exact HB3.out); (case aF => exact (fun _ _ => trivial)); (case aO => exact HO.out); (case aS => exact HB3.out.size); (case aL => have := HLN.out; have := HRL.out; simp; omega); intro v2 w5 ho hb5 hg hat; have HB5 := Aside0.mk hb5; have HO5 := Aside0.mk ho; clear ho hb5 hg hat))
        clear kc
        obtain ⟨Bw, cw, rfl⟩ := Kd.R_slice HO5.out
        have hW := C_of_raw (C_cast' (Kd.R_reads' HO5.out).2.2 HRL.out) rfl (fun j x y hj hy => k31.K_below HB5.out (HRK.out j x y hj hy))
        have HW := Aside0.mk hW
        have HT := Aside0.mk (Kd.C_below HC.out HB5.out)
        have HBa := Aside0.mk (below_then HB.out HB.out.size HB5.out)
        have HLR := Aside0.mk HRL.out
        rw [List.nil_append, HRL.out]
        clear hW
        have hbv : Below w5.heap.size w5 (w5.alloc (.cells #[.int .u8 120] 5 (1, 2))) := below_alloc (Below.refl _ _) _
        have hv : (w5.alloc (.cells #[.int .u8 120] 5 (1, 2))).cell? ⟨w5.heap.size, 0, none⟩ = some (.int .u8 120) := by unfold World.cell?; rw [heap_alloc_self]; rfl
        have hvf : (w5.alloc (.cells #[.int .u8 120] 5 (1, 2))).frozen? ⟨w5.heap.size, 0, none⟩ = false := by unfold World.frozen?; rw [heap_alloc_self]; rfl
        generalize w5.alloc (.cells #[.int .u8 120] 5 (1, 2)) = W6 at hbv hv hvf ⊢
        have hp := put9 A c l ((dt : Int) + 1) 99 ⟨0, [120], 0⟩ (some ⟨w5.heap.size, 0, none⟩) 1 W6 (Kd.C_below HT.out hbv) Hc.out HLN.out (fun x hx => by have := HSO.out.2 x hx; omega) (row1 hv) (Nat.le_refl 1) (show 1 < 140737488355328 from by decide)
        obtain ⟨hfU, hltU, hrdU⟩ := putP_at l ((dt : Int) + 1) ⟨(dt : Int) + 1, 99, ⟨0, [120], 0⟩⟩ rfl
        have hLU := look_put l ((dt : Int) + 1) 99 ⟨0, [120], 0⟩ (decide_eq_true (by omega)) rfl
        have hsoU := so_put l i ((dt : Int) + 1) 99 ⟨0, [120], 0⟩ HSO.out (show 1 < 1000 from by decide)
        obtain ⟨U, hU⟩ : ∃ U, putP l ((dt : Int) + 1) ⟨(dt : Int) + 1, 99, ⟨0, [120], 0⟩⟩ = U := ⟨_, rfl⟩
        rw [hU] at hp hltU hLU hsoU
        clear hfU hrdU hU
        refine hp.mono ?_
        rintro e w7 ⟨A7, c7, rfl, hc7, hF7, hb7⟩
        obtain ⟨g, cur, rfl, hgb, hg7, hgs, hgm, hgr⟩ : ∃ g cur, A7 = some ⟨g, 0, none⟩ ∧ W6.heap.size ≤ g ∧ w7.heap[g]? = some (.cells cur 31 (0, 0)) ∧ U.length * 5 ≤ cur.size ∧ U.length ≤ maxLen ∧ Reps (k31.M w7 W6.heap.size (fun k => k ≠ g)) 5 U (cur.toList.take (U.length * 5)) := by
          rcases hF7 with h | h
          · rw [h] at hltU; simp at hltU
          · exact h
        have hvl : w5.heap.size < W6.heap.size := World.block_lt_of_cell? W6 _ hv
        have v7 := (hb7.cell (p := ⟨w5.heap.size, 0, none⟩) hvl).trans hv
        have vf7 := (hb7.frozen (p := ⟨w5.heap.size, 0, none⟩) hvl).trans hvf
        obtain ⟨w8, hw8⟩ : ∃ w8, w8 = w7.setCell ⟨w5.heap.size, 0, none⟩ (.int .u8 121) := ⟨_, rfl⟩
        have hk8 : ∀ k, k ≠ w5.heap.size → w8.heap[k]? = w7.heap[k]? := fun k hk => by rw [hw8]; exact Below.heap_setCell w7 ⟨w5.heap.size, 0, none⟩ _ k hk
        have hg8 := (hk8 g (by omega)).trans hg7
        have hF8 : Fr k31 31 w8 W6.heap.size (some ⟨g, 0, none⟩) U := .inr ⟨g, cur, rfl, hgb, hg8, hgs, hgm, hgr.imp_ (fun _ _ h => M_keep3 h (fun k a b _ => hk8 k (by omega)))⟩
        have hb8 : Below w5.heap.size w5 w8 := by
          rw [hw8]
          exact (below_then hbv hbv.size hb7).setCell (p := ⟨w5.heap.size, 0, none⟩) (Nat.le_refl _) _
        have hC8 := Fr.C hF8
        have hlk := look8 (some ⟨g, 0, none⟩) c7 U ((dt : Int) + 1) 99 w8 hC8 hc7 (fun x hx => by have := hsoU.2 x hx; omega)
        rw [hLU] at hlk
        have HK := Aside0.mk hlk
        have HG8 := Aside0.mk hg8
        have HB8 := Aside0.mk hb8
        have HGS := Aside0.mk hgs
        have HGW := Aside0.mk (show w5.heap.size < W6.heap.size ∧ W6.heap.size ≤ g ∧ g < w8.heap.size from ⟨hvl, hgb, blk_lt hg8⟩)
        clear hp hlk hg8 hb8 hgs hF8 hC8 hk8 hF7 hgr hg7 hb7 hv hvf hbv hLU hgb hgm
        go_wp2_with fail
        rw [← hw8]
        clear hw8 v7 vf7
        refine HK.out.mono ?_
        rintro e w9 ⟨v9, rfl, hR9, hb9⟩
        obtain ⟨gr, cr, row, rfl, hgr1, hgr2, hgr3⟩ := own1 hR9
        have hO : OW w5 g U.length gr cr w9.heap.size 120 (w9.alloc (.cells #[.int .i64 0, .slice (some ⟨gr, 0, none⟩) 1 cr, .int .i64 0] 26)) := by
          have hba := below_alloc (below_then (Below.refl w8.heap.size w8) (Nat.le_refl _) hb9) (.cells #[.int .i64 0, .slice (some ⟨gr, 0, none⟩) 1 cr, .int .i64 0] 26)
          refine ⟨⟨cur, (hba.block g HGW.out.2.2).trans HG8.out, HGS.out⟩, ⟨row, (heap_alloc_lt _ _ _ (blk_lt hgr2)).trans hgr2, hgr3⟩, heap_alloc_self _ _, below_then HB8.out HB8.out.size hba⟩
        have hne1 : g ≠ gr := by have := HGW.out.2.2; omega
        have hne2 : g ≠ w9.heap.size := by have := HGW.out.2.2; have := hb9.size; omega
        have hne3 : gr ≠ w9.heap.size := by have := blk_lt hgr2; omega
        have hw5g : w5.heap.size ≤ g := by have := HGW.out; omega
        have hw5r : w5.heap.size ≤ gr := by have := HGW.out; omega
        have HO := Aside0.mk hO
        have HNE := Aside0.mk (show _ ∧ _ ∧ _ ∧ _ ∧ _ from ⟨hne1, hne2, hne3, hw5g, hw5r⟩)
        clear hO hne1 hne2 hne3 hw5g hw5r hR9 hb9 hgr1 hgr2 hgr3 HK
        go_wp2_with fail
        generalize w9.alloc (.cells #[.int .i64 0, .slice (some ⟨gr, 0, none⟩) 1 cr, .int .i64 0] 26) = W10 at HO ⊢
        generalize w9.heap.size = k10 at HO HNE ⊢
        have hUb : U.length ≤ 9 := by have := hsoU.1; omega
        have hlb : l.length ≤ 8 := by have := HSO.out.1; omega
        go_loopw [12, 64] (fun _ v64 w' => ∃ j : Nat, v64 = .int .i64 j ∧ j ≤ U.length ∧ Aside0 (OW w5 g U.length gr cr k10 120 w')) (fun _ v64 _ => U.length - (intOf v64).toNat)
        case atStart => exact ⟨0, rfl, Nat.zero_le _, HO⟩
        case round =>
          clear HO
          obtain ⟨j, rfl, hj, HO⟩ := hrel
          by_cases hjU : j < U.length
          · obtain ⟨b0, b1, b2, b3, b4, g0, g1, g2, g3, g4, gf⟩ := cells5 HO.out.1.choose_spec.1 HO.out.1.choose_spec.2 hjU
            have gf1 := gf (j * 5 + 1)
            clear g0 g2 g3 g4 gf
            go_wp2_with fail
            go_roundw
            case rel => exact ⟨j + 1, by go_num, by omega, ⟨OW_u HO.out HNE.out.2.2.2.1 HNE.out.1 HNE.out.2.1 _⟩⟩
            case measure => simp [intOf]; omega
          · obtain ⟨z0, z1, z2, z3⟩ := blk_cells3 HO.out.2.2.1
            clear z0 z2 z3
            go_wp2_with fail
            clear z1
            go_loopw [13, 75] (fun _ v75 w' => ∃ (j : Nat) (x : Int), v75 = .int .i64 j ∧ ((j = 0 ∧ x = 120) ∨ (j = 1 ∧ x = 121)) ∧ Aside0 (OW w5 g U.length gr cr k10 x w')) (fun _ v75 _ => 1 - (intOf v75).toNat)
            case atStart => exact ⟨0, 120, rfl, .inl ⟨rfl, rfl⟩, HO⟩
            case round =>
              clear HO hj hjU
              obtain ⟨j, x, rfl, hjx, HO⟩ := hrel
              rcases hjx with ⟨rfl, rfl⟩ | ⟨rfl, rfl⟩
              · obtain ⟨z0, z1, z2, z3⟩ := blk_cells3 HO.out.2.2.1
                obtain ⟨row, hr1, hr2⟩ := HO.out.2.1
                have r0 := (cell_of_heap (j := 0) hr1).1.trans hr2
                have rf := (cell_of_heap (j := 0) hr1).2
                clear z0 z2 z3 hr1 hr2
                go_wp2_with fail
                go_roundw
                case rel => exact ⟨1, 121, rfl, .inr ⟨rfl, rfl⟩, ⟨OW_r HO.out HNE.out.2.2.2.2 HNE.out.1 HNE.out.2.2.1⟩⟩
                case measure => simp [intOf]
              · go_wp2_with fail
                go_loopw [14, 88] (fun _ v88 w' => ∃ j : Nat, v88 = .int .i64 j ∧ j ≤ l.length ∧ Aside0 (OW w5 g U.length gr cr k10 121 w')) (fun _ v88 _ => l.length - (intOf v88).toNat)
                case atStart => exact ⟨0, rfl, Nat.zero_le _, HO⟩
                case round =>
                  clear HO
                  obtain ⟨j, rfl, hj, HO⟩ := hrel
                  by_cases hjl : j < l.length
                  · obtain ⟨ad, A3, c3, e, h0, h1, h2, h3, h4, l3, g3⟩ := at_T31 (Kd.C_below HT.out HO.out.2.2.2) (j : Int) (by omega) (by omega)
                    obtain ⟨bd, B3, d3, e', h0', h1', h2', h3', h4', l3', g3'⟩ := at_T31 (Kd.C_below HW.out HO.out.2.2.2) (j : Int) (by omega) (by omega)
                    cases e
                    cases e'
                    simp only [Int.toNat_natCast] at h0 h1 h4 h0' h1' h4'
                    generalize rd_T31 l (j : Int) = y at h0 h1 h4 h0' h1' h4'
                    have hOa : OW w5 g U.length gr cr k10 121 wr.drew := ⟨HO.out.1, HO.out.2.1, HO.out.2.2.1, below_drew1 HO.out.2.2.2⟩
                    have HOa := Aside0.mk hOa
                    clear l3 g3 h2 h3 l3' g3' h2' h3' hOa
                    go_wp2_with fail
                    go_region
                    go_wp2
                    go_roundw
                    case rel => exact ⟨j + 1, by go_num, by omega, HOa⟩
                    case measure => simp [intOf]; omega
                  · obtain ⟨z0, z1, z2, z3⟩ := blk_cells3 HO.out.2.2.1
                    obtain ⟨row, hr1, hr2⟩ := HO.out.2.1
                    have r0 := (cell_of_heap (j := 0) hr1).1.trans hr2
                    have HBf := Aside0.mk (below_then HBa.out HBa.out.size HO.out.2.2.2)
                    clear z0 z2 z3 hr1 hr2 HO
                    go_wp2_with fail
                    refine (awake10 _).mono ?_
                    rintro e wz ⟨rfl, hbz⟩
                    have HBz := Aside0.mk (below_then HBf.out HBf.out.size hbz)
                    clear hbz
                    go_wp2_with fail
                    go_ret
                    exact ⟨rfl, HBz.out⟩
    · clear hC hB hc hso HI
      have hdn : l.length < 1000000 := by have := HSO.out.1; omega
      obtain ⟨rows, hrl, hrc, hrk⟩ := C_raw HC.out
      have HRC := Aside0.mk hrc
      have HRK := Aside0.mk hrk
      have HRL := Aside0.mk hrl
      have HLN := Aside0.mk hdn
      obtain ⟨dt, hdt, hdt7⟩ := and7 at'
      have e4 : IntKind.i64.wrap ((dt : Int) + 1) = (dt : Int) + 1 := by rw [IntKind.wrap_i64]; omega
      clear hrc hrk hrl hdn
      have kc := fun (w : World) (C : Array Value) (n c : Nat) => Lib.run_convert_bytes_const (P := Try.prog) w 24 5 C n c Try.underlying24 Try.underlying5
      go_wp2_with (first | ((with_reducible refine gate_dst (N := 40) rfl ?_); refine Kd.R_lit (Kd.raw 5) _ 31 ?hg (N := 40) ?hd (xs := ([] : List (List Value))) (inner := []) (ok := fun _ => True) (okp := fun _ => True) ?hr ?hp (fun _ hk => hk) trivial (Below.refl _ _) (Nat.le_refl _) (by simp) ?_; (case hd => rfl); (case hg => rfl); (case hr => first | (go_simp; done) | (go_simp; rfl)); (case hp => exact (Reps.none _ _)); intro v1 w3 ho4 hb4 hg_ hnew_; clear hg_ hnew_; have HB3 := Aside0.mk hb4; have HO := Aside0.mk ho4; clear hb4 ho4) | ((with_reducible refine gate_builtin (b := .append) (xs := #[.tmp 40, .tmp 41]) rfl ?_); at_builtin; refine Kd.R_append_rows (Kd.raw 5) (w0 := wr) wr.heap.size rfl (.tmp 40) (.tmp 41) 22 31 (.agg #[(.int .i64 0), (.int .i64 0), (.int .i64 0), (.slice none 0 0), (.int .i64 0)]) 56 rfl Try.underlying22 info31 rfl (by decide) (by omega) v1 [] rows _ _ _ (fun _ => True) (fun _ => False) rfl rfl ?aO ?aR (fun _ _ h => h) (fun _ h => h.elim) ?aF ?aB ?aS ?aL ?_; (case aR => exact Kd.C_below HRC.out HB3.out); (case aB => exact HB3.out); (case aF => exact (fun _ _ => trivial)); (case aO => exact HO.out); (case aS => exact HB3.out.size); (case aL => have := HLN.out; have := HRL.out; simp; omega); intro v2 w5 ho hb5 hg hat; have HB5 := Aside0.mk hb5; have HO5 := Aside0.mk ho; clear ho hb5 hg hat))
      clear kc
      obtain ⟨Bw, cw, rfl⟩ := Kd.R_slice HO5.out
      have hW := C_of_raw (C_cast' (Kd.R_reads' HO5.out).2.2 HRL.out) rfl (fun j x y hj hy => k31.K_below HB5.out (HRK.out j x y hj hy))
      have HW := Aside0.mk hW
      have HT := Aside0.mk (Kd.C_below HC.out HB5.out)
      have HBa := Aside0.mk (below_then HB.out HB.out.size HB5.out)
      have HLR := Aside0.mk HRL.out
      rw [List.nil_append, HRL.out]
      clear hW
      have hbv : Below w5.heap.size w5 (w5.alloc (.cells #[.int .u8 120] 5 (1, 2))) := below_alloc (Below.refl _ _) _
      have hv : (w5.alloc (.cells #[.int .u8 120] 5 (1, 2))).cell? ⟨w5.heap.size, 0, none⟩ = some (.int .u8 120) := by unfold World.cell?; rw [heap_alloc_self]; rfl
      have hvf : (w5.alloc (.cells #[.int .u8 120] 5 (1, 2))).frozen? ⟨w5.heap.size, 0, none⟩ = false := by unfold World.frozen?; rw [heap_alloc_self]; rfl
      generalize w5.alloc (.cells #[.int .u8 120] 5 (1, 2)) = W6 at hbv hv hvf ⊢
      have hp := put9 A c l ((dt : Int) + 1) 99 ⟨0, [120], 0⟩ (some ⟨w5.heap.size, 0, none⟩) 1 W6 (Kd.C_below HT.out hbv) Hc.out HLN.out (fun x hx => by have := HSO.out.2 x hx; omega) (row1 hv) (Nat.le_refl 1) (show 1 < 140737488355328 from by decide)
      obtain ⟨hfU, hltU, hrdU⟩ := putP_at l ((dt : Int) + 1) ⟨(dt : Int) + 1, 99, ⟨0, [120], 0⟩⟩ rfl
      have hLU := look_put l ((dt : Int) + 1) 99 ⟨0, [120], 0⟩ (decide_eq_true (by omega)) rfl
      have hsoU := so_put l i ((dt : Int) + 1) 99 ⟨0, [120], 0⟩ HSO.out (show 1 < 1000 from by decide)
      obtain ⟨U, hU⟩ : ∃ U, putP l ((dt : Int) + 1) ⟨(dt : Int) + 1, 99, ⟨0, [120], 0⟩⟩ = U := ⟨_, rfl⟩
      rw [hU] at hp hltU hLU hsoU
      clear hfU hrdU hU
      refine hp.mono ?_
      rintro e w7 ⟨A7, c7, rfl, hc7, hF7, hb7⟩
      obtain ⟨g, cur, rfl, hgb, hg7, hgs, hgm, hgr⟩ : ∃ g cur, A7 = some ⟨g, 0, none⟩ ∧ W6.heap.size ≤ g ∧ w7.heap[g]? = some (.cells cur 31 (0, 0)) ∧ U.length * 5 ≤ cur.size ∧ U.length ≤ maxLen ∧ Reps (k31.M w7 W6.heap.size (fun k => k ≠ g)) 5 U (cur.toList.take (U.length * 5)) := by
        rcases hF7 with h | h
        · rw [h] at hltU; simp at hltU
        · exact h
      have hvl : w5.heap.size < W6.heap.size := World.block_lt_of_cell? W6 _ hv
      have v7 := (hb7.cell (p := ⟨w5.heap.size, 0, none⟩) hvl).trans hv
      have vf7 := (hb7.frozen (p := ⟨w5.heap.size, 0, none⟩) hvl).trans hvf
      obtain ⟨w8, hw8⟩ : ∃ w8, w8 = w7.setCell ⟨w5.heap.size, 0, none⟩ (.int .u8 121) := ⟨_, rfl⟩
      have hk8 : ∀ k, k ≠ w5.heap.size → w8.heap[k]? = w7.heap[k]? := fun k hk => by rw [hw8]; exact Below.heap_setCell w7 ⟨w5.heap.size, 0, none⟩ _ k hk
      have hg8 := (hk8 g (by omega)).trans hg7
      have hF8 : Fr k31 31 w8 W6.heap.size (some ⟨g, 0, none⟩) U := .inr ⟨g, cur, rfl, hgb, hg8, hgs, hgm, hgr.imp_ (fun _ _ h => M_keep3 h (fun k a b _ => hk8 k (by omega)))⟩
      have hb8 : Below w5.heap.size w5 w8 := by
        rw [hw8]
        exact (below_then hbv hbv.size hb7).setCell (p := ⟨w5.heap.size, 0, none⟩) (Nat.le_refl _) _
      have hC8 := Fr.C hF8
      have hlk := look8 (some ⟨g, 0, none⟩) c7 U ((dt : Int) + 1) 99 w8 hC8 hc7 (fun x hx => by have := hsoU.2 x hx; omega)
      rw [hLU] at hlk
      have HK := Aside0.mk hlk
      have HG8 := Aside0.mk hg8
      have HB8 := Aside0.mk hb8
      have HGS := Aside0.mk hgs
      have HGW := Aside0.mk (show w5.heap.size < W6.heap.size ∧ W6.heap.size ≤ g ∧ g < w8.heap.size from ⟨hvl, hgb, blk_lt hg8⟩)
      clear hp hlk hg8 hb8 hgs hF8 hC8 hk8 hF7 hgr hg7 hb7 hv hvf hbv hLU hgb hgm
      go_wp2_with fail
      rw [← hw8]
      clear hw8 v7 vf7
      refine HK.out.mono ?_
      rintro e w9 ⟨v9, rfl, hR9, hb9⟩
      obtain ⟨gr, cr, row, rfl, hgr1, hgr2, hgr3⟩ := own1 hR9
      have hO : OW w5 g U.length gr cr w9.heap.size 120 (w9.alloc (.cells #[.int .i64 0, .slice (some ⟨gr, 0, none⟩) 1 cr, .int .i64 0] 26)) := by
        have hba := below_alloc (below_then (Below.refl w8.heap.size w8) (Nat.le_refl _) hb9) (.cells #[.int .i64 0, .slice (some ⟨gr, 0, none⟩) 1 cr, .int .i64 0] 26)
        refine ⟨⟨cur, (hba.block g HGW.out.2.2).trans HG8.out, HGS.out⟩, ⟨row, (heap_alloc_lt _ _ _ (blk_lt hgr2)).trans hgr2, hgr3⟩, heap_alloc_self _ _, below_then HB8.out HB8.out.size hba⟩
      have hne1 : g ≠ gr := by have := HGW.out.2.2; omega
      have hne2 : g ≠ w9.heap.size := by have := HGW.out.2.2; have := hb9.size; omega
      have hne3 : gr ≠ w9.heap.size := by have := blk_lt hgr2; omega
      have hw5g : w5.heap.size ≤ g := by have := HGW.out; omega
      have hw5r : w5.heap.size ≤ gr := by have := HGW.out; omega
      have HO := Aside0.mk hO
      have HNE := Aside0.mk (show _ ∧ _ ∧ _ ∧ _ ∧ _ from ⟨hne1, hne2, hne3, hw5g, hw5r⟩)
      clear hO hne1 hne2 hne3 hw5g hw5r hR9 hb9 hgr1 hgr2 hgr3 HK
      go_wp2_with fail
      generalize w9.alloc (.cells #[.int .i64 0, .slice (some ⟨gr, 0, none⟩) 1 cr, .int .i64 0] 26) = W10 at HO ⊢
      generalize w9.heap.size = k10 at HO HNE ⊢
      have hUb : U.length ≤ 9 := by have := hsoU.1; omega
      have hlb : l.length ≤ 8 := by have := HSO.out.1; omega
      go_loopw [12, 64] (fun _ v64 w' => ∃ j : Nat, v64 = .int .i64 j ∧ j ≤ U.length ∧ Aside0 (OW w5 g U.length gr cr k10 120 w')) (fun _ v64 _ => U.length - (intOf v64).toNat)
      case atStart => exact ⟨0, rfl, Nat.zero_le _, HO⟩
      case round =>
        clear HO
        obtain ⟨j, rfl, hj, HO⟩ := hrel
        by_cases hjU : j < U.length
        · obtain ⟨b0, b1, b2, b3, b4, g0, g1, g2, g3, g4, gf⟩ := cells5 HO.out.1.choose_spec.1 HO.out.1.choose_spec.2 hjU
          have gf1 := gf (j * 5 + 1)
          clear g0 g2 g3 g4 gf
          go_wp2_with fail
          go_roundw
          case rel => exact ⟨j + 1, by go_num, by omega, ⟨OW_u HO.out HNE.out.2.2.2.1 HNE.out.1 HNE.out.2.1 _⟩⟩
          case measure => simp [intOf]; omega
        · obtain ⟨z0, z1, z2, z3⟩ := blk_cells3 HO.out.2.2.1
          clear z0 z2 z3
          go_wp2_with fail
          clear z1
          go_loopw [13, 75] (fun _ v75 w' => ∃ (j : Nat) (x : Int), v75 = .int .i64 j ∧ ((j = 0 ∧ x = 120) ∨ (j = 1 ∧ x = 121)) ∧ Aside0 (OW w5 g U.length gr cr k10 x w')) (fun _ v75 _ => 1 - (intOf v75).toNat)
          case atStart => exact ⟨0, 120, rfl, .inl ⟨rfl, rfl⟩, HO⟩
          case round =>
            clear HO hj hjU
            obtain ⟨j, x, rfl, hjx, HO⟩ := hrel
            rcases hjx with ⟨rfl, rfl⟩ | ⟨rfl, rfl⟩
            · obtain ⟨z0, z1, z2, z3⟩ := blk_cells3 HO.out.2.2.1
              obtain ⟨row, hr1, hr2⟩ := HO.out.2.1
              have r0 := (cell_of_heap (j := 0) hr1).1.trans hr2
              have rf := (cell_of_heap (j := 0) hr1).2
              clear z0 z2 z3 hr1 hr2
              go_wp2_with fail
              go_roundw
              case rel => exact ⟨1, 121, rfl, .inr ⟨rfl, rfl⟩, ⟨OW_r HO.out HNE.out.2.2.2.2 HNE.out.1 HNE.out.2.2.1⟩⟩
              case measure => simp [intOf]
            · go_wp2_with fail
              go_loopw [14, 88] (fun _ v88 w' => ∃ j : Nat, v88 = .int .i64 j ∧ j ≤ l.length ∧ Aside0 (OW w5 g U.length gr cr k10 121 w')) (fun _ v88 _ => l.length - (intOf v88).toNat)
              case atStart => exact ⟨0, rfl, Nat.zero_le _, HO⟩
              case round =>
                clear HO
                obtain ⟨j, rfl, hj, HO⟩ := hrel
                by_cases hjl : j < l.length
                · obtain ⟨ad, A3, c3, e, h0, h1, h2, h3, h4, l3, g3⟩ := at_T31 (Kd.C_below HT.out HO.out.2.2.2) (j : Int) (by omega) (by omega)
                  obtain ⟨bd, B3, d3, e', h0', h1', h2', h3', h4', l3', g3'⟩ := at_T31 (Kd.C_below HW.out HO.out.2.2.2) (j : Int) (by omega) (by omega)
                  cases e
                  cases e'
                  simp only [Int.toNat_natCast] at h0 h1 h4 h0' h1' h4'
                  generalize rd_T31 l (j : Int) = y at h0 h1 h4 h0' h1' h4'
                  have hOa : OW w5 g U.length gr cr k10 121 wr.drew := ⟨HO.out.1, HO.out.2.1, HO.out.2.2.1, below_drew1 HO.out.2.2.2⟩
                  have HOa := Aside0.mk hOa
                  clear l3 g3 h2 h3 l3' g3' h2' h3' hOa
                  go_wp2_with fail
                  go_region
                  go_wp2
                  go_roundw
                  case rel => exact ⟨j + 1, by go_num, by omega, HOa⟩
                  case measure => simp [intOf]; omega
                · obtain ⟨z0, z1, z2, z3⟩ := blk_cells3 HO.out.2.2.1
                  obtain ⟨row, hr1, hr2⟩ := HO.out.2.1
                  have r0 := (cell_of_heap (j := 0) hr1).1.trans hr2
                  have HBf := Aside0.mk (below_then HBa.out HBa.out.size HO.out.2.2.2)
                  clear z0 z2 z3 hr1 hr2 HO
                  go_wp2_with fail
                  refine (awake10 _).mono ?_
                  rintro e wz ⟨rfl, hbz⟩
                  have HBz := Aside0.mk (below_then HBf.out HBf.out.size hbz)
                  clear hbz
                  go_wp2_with fail
                  go_ret
                  exact ⟨rfl, HBz.out⟩
end Go.Proofs.Ytjpgnipjgonplaa.Ss
namespace Go.Proofs.Ytjpgnipjgonplaa.sessOwn
open Go.ChangeShapes Go.WideShapes Go.ChangeAt Go.RowKit Go.Proofs.YtjpgnipjgonplaaW
open Go.ChangeMaps (open_string shut_string)
theorem own : ownKnob Try.prog.godebug = none := by kernel_rfl
theorem laidOut : laidOutB Try.prog = true := by kernel_rfl
def IsRow (k : IntKind) (w : World) (a : Option Addr) (len cap : Nat) (zs : List Int) : Prop :=
  (a = none ∧ len = 0 ∧ cap = 0 ∧ zs = []) ∨
  ∃ x, a = some x ∧ len ≤ cap ∧ cap ≤ maxLen ∧ zs.length = cap ∧ (∀ i, i < zs.length → w.cell? (x.add i) = some (.int k (zs.getD i 0))) ∧ ∀ n ∈ zs, (Lit.int k n).wf = true
theorem rowI {w : World} {a : Option Addr} {len cap : Nat} {zs : List Int} (h : IsRow .i64 w a len cap zs) : Ss.RowI w a len := by
  intro h0
  rcases h with ⟨_, rfl, _⟩ | ⟨x, rfl, h1, h2, h3, h4, _⟩
  · exact absurd h0 (Nat.lt_irrefl 0)
  · exact ⟨x, rfl, fun j hj => ⟨_, h4 j (by omega)⟩⟩
set_option maxRecDepth 100000 in
theorem lifted (os : Os) (started : os.Started) (H : Type) (enc : TypeId × Value → H) :
    ReturnsInHanded {} Try.checked os 5 .any (Rows.sessOwnSpec.pre6 enc Try.prog Try.f5 Rows.sessOwnRow.domain false) (Rows.sessOwnSpec.post enc Try.prog Try.f5 false true false false) := by
  refine returnsInHanded_of_change_sized (C := Try.checked) own started (by kernel_rfl) Try.func5
    (ChangeSpec.witness6 (enc := enc) (C := Try.checked) false ⟨#[], #[.slice none 0 0, .int .i64 0], []⟩ 8 (by kernel_rfl) (by kernel_rfl) (by kernel_rfl) (by kernel_rfl)) ?_
  intro W base args ds gs before hval0 hW hcnd hsz0 _
  have hsz : (DataW.weightsEach Try.prog (Try.f5.params.toList ++ Rows.sessOwnSpec.plain.varTypes Try.prog) (ds ++ gs)).all (· ≤ reachBytes) = true := hsz0
  have hval : ∀ (j : Nat) t v, Try.f5.params[j]? = some t → args[j]? = some v → Value.okWide Try.prog W .any base t v := hval0
  have hW' := hW
  obtain ⟨p, q, hA0, hV, rfl, hfz, hnd⟩ := hW
  have hA : DataW.TrodAll enc Try.prog W 0 (fun _ => true) true Try.f5.params.toList args.toList ds p := hA0
  rw [Try.params5] at hA hval hsz
  obtain ⟨v0, vs0, d0, ds0, p0, q0, hargs, rfl, rfl, h0, r0⟩ := trodAll_cons hA
  obtain ⟨v1, vs1, d1, ds1, p1, q1, rfl, rfl, rfl, h1, r1⟩ := trodAll_cons r0
  obtain ⟨rfl, rfl, rfl⟩ := trodAll_nil r1
  obtain rfl : args = #[v0, v1] := by cases args; simp_all
  obtain ⟨rfl, rfl⟩ := trodVars_none hV
  obtain ⟨a0, len0, cap0, rfl⟩ := okWide_slice Try.underlying37 (hval 0 37 v0 rfl rfl)
  have k0 := h0
  have lt0 : ∀ x ∈ p0, x.block < W.heap.size := by obtain ⟨m, hm⟩ := k0; exact DataW.trod_lt m _ _ _ hm
  obtain ⟨z0, w0⟩ : ∃ zs, IsRow .i64 W a0 len0 cap0 zs := by
    obtain ⟨fuel, hf⟩ := h0
    rcases open_ints Try.underlying37 Try.underlying3 (by kernel_rfl) hf with ⟨hcs, _⟩ | ⟨x, l, c, zs, hcs, _, hl, hm, hz, _, hcell, hwz⟩
    · simp [Value.cells] at hcs
      obtain ⟨rfl, rfl, rfl⟩ := hcs
      exact ⟨[], .inl ⟨rfl, rfl, rfl, rfl⟩⟩
    · simp [Value.cells] at hcs
      obtain ⟨rfl, rfl, rfl⟩ := hcs
      exact ⟨zs, .inr ⟨_, rfl, hl, hm, by simpa using hz, hcell, hwz⟩⟩
  have y0 : len0 * 8 ≤ 140737488351232 := PrintWords.sized_ints hsz (j := 0) (t := 37) rfl rfl Try.underlying37 Try.underlying3 (by kernel_rfl) (by kernel_rfl) h0
  obtain ⟨a1, rfl, rfl, rfl, w1⟩ := open_int Try.underlying3 (hval 1 3 v1 rfl rfl) h1
  clear hA0 hval0 hsz0 hsz
  refine (Ss.own_calls a0 len0 cap0 a1 W (rowI w0)).mono fun e W' ⟨he, bel⟩ => ?_
  subst he
  exact ⟨_, rfl, _, _, _, [], _, [], hW', trodAll_mk1 (shut_bool Try.underlying4 _), (trodAll_cons_mk (Below.trod laidOut (by kernel_rfl) (of_decide_eq_true (by kernel_rfl)) k0 bel lt0) (trodAll_cons_mk (shut_int Try.underlying3 w1) trodAll_mk0)), rfl, bel.frame _, fun h => by cases h⟩
theorem over : Rows.sessOwnRow.holds Try.pinned (OpenSpec.ofChange Rows.sessOwnSpec) :=
  OpenClaim.holds_of_wide 5 Try.f5 rfl rfl rfl rfl rfl rfl rfl ⟨rfl, rfl, rfl, rfl, rfl⟩ rfl rfl rfl rfl rfl (by kernel_rfl) Try.func5 (by kernel_rfl)
    (of_decide_eq_true (by kernel_rfl)) (by unfold Func.isWrapper; first | (rw [if_pos (by decide +kernel)]; kernel_rfl) | (rw [if_neg (by decide +kernel)]; exact ⟨rfl, rfl⟩))
    (fun os started H enc _ => lifted os started H enc)
theorem proved : Rows.SessOwnSaid := over
end Go.Proofs.Ytjpgnipjgonplaa.sessOwn
namespace Go.Proofs.Ytjpgnipjgonplaa
/-- The row, under a short name, for the claim. -/
theorem sessOwn_holds : Rows.SessOwnSaid := sessOwn.proved
end Go.Proofs.Ytjpgnipjgonplaa
