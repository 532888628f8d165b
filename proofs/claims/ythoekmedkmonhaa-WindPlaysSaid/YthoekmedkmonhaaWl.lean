/- WindPlays: the closure 'whole', and how a function leaves that has gone through many ranges. -/
import Derived.Outline
import Derived.IntWalk
import Derived.Test.YthoekmedkmonhaaWk
import Derived.Test.YthoekmedkmonhaaWci
import Derived.Test.YthoekmedkmonhaaWcb
import Derived.Test.YthoekmedkmonhaaWdi
import Derived.Test.YthoekmedkmonhaaWdb
namespace Go.Proofs.Ythoekmedkmonhaa.Wi
open Go Go.RowKit Go.Maps Go.Shelf Go.Proofs.Ythoekmedkmonhaa Go.Proofs.YthoekmedkmonhaaW.PrintWords Go.Proofs.YthoekmedkmonhaaW.PrintLast Go.Proofs.YthoekmedkmonhaaW.PrintMore
set_option linter.unusedVariables false
set_option linter.unusedSimpArgs false

set_option maxHeartbeats 1000000 in
theorem whole29 (B3 B9 mh n : Nat) (s : Wd) (w : World) (h3 : Boxed w B3 3 (.int .i64 s.fr)) (h9 : Boxed w B9 49 (.map (some mh))) (hm : Mf w mh n s.f) (hv : Iv n s) (hn : n < 1000000) :
    Calls Try.prog 29 #[.pointer (some ⟨B3, 0, none⟩), .pointer (some ⟨B9, 0, none⟩)] w (fun e w' => e = .returned (.int .i64 s.wh) ∧ w' = w) := by
  have hc3 := h3.cell
  have hc9 := h9.cell
  have HM := Aside0.mk hm
  have HV := Aside0.mk hv
  have hp1 := hv.p1
  have hp0 := hv.p0
  have hp4 := hv.p4
  clear h3 h9 hm hv
  go_enter Try.func29, Try.ntmps29
  go_wp2_with fail
  go_loopw [3, 4, 5] (fun v _ _ wr => ∃ k : Nat, v = .int .i64 (s.fr + (k : Int)) ∧ s.fr + (k : Int) ≤ s.wh ∧ Aside0 (w = wr)) (fun v _ _ _ => (s.wh - intOf v).toNat)
  case atStart => exact ⟨0, by simp, by simpa using hp1, ⟨by first | rfl | trivial⟩⟩
  case round =>
    obtain ⟨k, rfl, hk, ⟨rfl⟩⟩ := hrel
    have hkw : Wf (s.fr + (k : Int) + 1) := ⟨by omega, by omega⟩
    have hl := HM.out.look Try.underlying49 (Try.zeroValue3 w) hkw
    have hwr : IntKind.i64.wrap (s.fr + (k : Int) + 1) = s.fr + (k : Int) + 1 := IntWalk.i64_in _ (by omega)
    obtain ⟨y, hy⟩ : ∃ y, y = (s.f (s.fr + (k : Int) + 1)).getD (.int .i64 0) := ⟨_, rfl⟩
    rw [← hy] at hl
    clear hy
    by_cases hlt : s.fr + (k : Int) < s.wh
    · have hs := HV.out.in1 (s.fr + (k : Int) + 1) (by omega) (by omega)
      rw [hs] at hl
      clear hs
      go_wp2_with fail
      go_roundw
      case rel => exact ⟨k + 1, by push_cast; rw [show s.fr + ((k : Int) + 1) = s.fr + (k : Int) + 1 by omega], by push_cast; omega, ⟨by first | rfl | trivial⟩⟩
      case measure => simp [intOf]; omega
    · have he : s.fr + (k : Int) = s.wh := by omega
      have hs := HV.out.in2
      rw [← he] at hs
      rw [hs] at hl
      have HE := Aside0.mk he
      clear hs he
      go_wp2_with fail
      go_ret
      exact ⟨by rw [← HE.out]; rfl, rfl⟩

/-- The deferred calls of ranges, none of which there is: one by one. -/
theorem leaves_ds {F : Fence} {n : Nat} {P : Program} {fn : Func} {tmps : Array Value} {R : Ending → World → Prop} : ∀ (ds : List Nat) (w : World), (∀ D ∈ ds, w.heap[D]? = some (.deferred (some []))) → ds.Nodup →
    (∀ w', w'.os = w.os → w'.tape = w.tape → w'.output = w.output → w'.heap.size = w.heap.size → (∀ j, j ∉ ds → w'.heap[j]? = w.heap[j]?) → LeavesIn F n P fn tmps R [] .returning w') →
    LeavesInM F n P fn tmps R (ds.map (fun D => { target := .collected D, args := #[] })) .returning w
  | [], w, _, _, h => h w rfl rfl rfl rfl (fun _ _ => rfl)
  | D :: ds, w, hD, hN, h => by
    obtain ⟨hN1, hN2⟩ := List.nodup_cons.1 hN
    refine ⟨by simp, .inl ⟨D, _, rfl, run_takeDeferred (hD D (by simp)), ?_⟩⟩
    refine leaves_ds ds _ (fun E hE => (World.putObj_heap_other (show E ≠ D from fun e => hN1 (by rw [← e]; exact hE))).trans (hD E (by simp [hE]))) hN2 (fun w' h1 h2 h3 h4 h5 => ?_)
    refine h w' h1 h2 h3 (by rw [h4]; simp [World.putObj]) (fun j hj => ?_)
    simp only [List.mem_cons, not_or] at hj
    exact (h5 j hj.2).trans (World.putObj_heap_other hj.1)

/-- What two windows and a map of one's own have in common. -/
structure Lk (sw sv : Wd) (w : World) : Prop where
  fr : sv.fr = sw.fr
  no : ∀ j, sw.f j = none → sv.f j = none
  yes : ∀ j v, sw.f j = some v → ∃ (x : Nat) (g : Nat), v = .int .i64 (x : Int) ∧ x < 60 ∧ sv.f j = some (.slice (some ⟨g, 0, none⟩) 1 1) ∧ w.heap[g]? = some (.cells #[.int .u8 (x : Int)] 5 (0, 0))

theorem Lk.isS {sw sv : Wd} {w : World} (h : Lk sw sv w) (j : Int) : (sv.f j).isSome = (sw.f j).isSome := by
  cases hj : sw.f j with
  | none => rw [h.no j hj]
  | some v =>
    obtain ⟨x, g, _, _, h3, _⟩ := h.yes j v hj
    rw [h3]; rfl
theorem Lk.wh {sw sv : Wd} {w : World} {n n' : Nat} (h : Lk sw sv w) (hw : Iv n sw) (hv : Iv n' sv) : sv.wh = sw.wh := by
  refine wh_eq hv (by rw [h.fr]; exact hw.p1) (fun j a b => ?_) ?_
  · rw [h.isS j]
    exact hw.in1 j (by rw [← h.fr]; exact a) b
  · rw [h.isS]
    exact hw.in2

theorem Lk.keep {sw sv : Wd} {w w' : World} (h : Lk sw sv w) (hk : ∀ (g : Nat) (x : Array Value), w.heap[g]? = some (Obj.cells x 5 (0, 0)) → w'.heap[g]? = some (Obj.cells x 5 (0, 0))) : Lk sw sv w' :=
  ⟨h.fr, h.no, fun j v hj => by
    obtain ⟨x, g, h1, h2, h3, h4⟩ := h.yes j v hj
    exact ⟨x, g, h1, h2, h3, hk g _ h4⟩⟩
theorem Lk.below {sw sv : Wd} {w w' : World} (h : Lk sw sv w) (hb : Below w.heap.size w w') : Lk sw sv w' :=
  h.keep (fun g x hg => (hb.block g (Array.getElem?_eq_some_iff.1 hg).1).trans hg)

/-- The law between two rounds: its boxes, its two windows, its map; what ranges have left. -/
structure PlI (w : World) (B3 B5 B6 B9 bw mw bv mv mh : Nat) (a2 : Int) (i : Nat) (ds : List Nat) (sw sv : Wd) (wr : World) : Prop where
  b3 : Boxed wr B3 3 (.int .i64 sw.fr)
  b5 : Boxed wr B5 3 (.int .i64 a2)
  b6 : Boxed wr B6 4 (.bool false)
  b9 : Boxed wr B9 49 (.map (some mh))
  hw : Wn 61 wr bw mw i sw
  iw : Iv i sw
  hv : Wn 74 wr bv mv i sv
  iv : Iv i sv
  hm : Mf wr mh i sw.f
  lk : Lk sw sv wr
  dd : ∀ D ∈ ds, wr.heap[D]? = some (.deferred (some [])) ∧ B9 < D
  nd : ds.Nodup
  bel : Below w.heap.size w wr
theorem PlI.below {w : World} {B3 B5 B6 B9 bw mw bv mv mh : Nat} {a2 : Int} {i : Nat} {ds : List Nat} {sw sv : Wd} {wr w' : World} (h : PlI w B3 B5 B6 B9 bw mw bv mv mh a2 i ds sw sv wr) (hb : Below wr.heap.size wr w') :
    PlI w B3 B5 B6 B9 bw mw bv mv mh a2 i ds sw sv w' :=
  ⟨(hb.block _ h.b3.lt).trans h.b3, (hb.block _ h.b5.lt).trans h.b5, (hb.block _ h.b6.lt).trans h.b6, (hb.block _ h.b9.lt).trans h.b9, h.hw.below hb h.hw.blt h.hw.mlt, h.iw, h.hv.below hb h.hv.blt h.hv.mlt, h.iv,
    h.hm.of_block (hb.block _ h.hm.lt), h.lk.below hb, fun D hD => ⟨(hb.block D (Array.getElem?_eq_some_iff.1 (h.dd D hD).1).1).trans (h.dd D hD).1, (h.dd D hD).2⟩, h.nd, h.bel.trans (hb.mono h.bel.size)⟩
theorem PlI.drew {w : World} {B3 B5 B6 B9 bw mw bv mv mh : Nat} {a2 : Int} {i : Nat} {ds : List Nat} {sw sv : Wd} {wr : World} (h : PlI w B3 B5 B6 B9 bw mw bv mv mh a2 i ds sw sv wr) : PlI w B3 B5 B6 B9 bw mw bv mv mh a2 i ds sw sv wr.drew :=
  h.below (Below.refl _ _).drew
end Go.Proofs.Ythoekmedkmonhaa.Wi
