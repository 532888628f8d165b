/- WindPlays: the last way out. -/
import Derived.Test.YthoekmedkmonhaaWm
namespace Go.Proofs.Ythoekmedkmonhaa.Wi
open Go Go.RowKit Go.Maps Go.Shelf Go.Proofs.Ythoekmedkmonhaa Go.Proofs.YthoekmedkmonhaaW.PrintWords
set_option linter.unusedVariables false
set_option linter.unusedSimpArgs false

theorem results_cell1 {P : Program} {fn : Func} {p : Tmp} {ty : TypeId} (h : fn.results = #[.cell p ty]) (tmps : Array Value) (w : World) (a : Addr) (v : Value) (hp : tmps.getD p undef = .pointer (some a)) (hc : w.cell? a = some v)
    (hagg : (isAgg ty).run P w = .ok false w) : (results fn tmps).run P w = .ok v w := by
  have hp' : tmps[p]?.getD undef = .pointer (some a) := by simpa using hp
  unfold results
  simp [h, hp', asAddr, loadVar, hagg, run_load, hc]

theorem leave_plays {w : World} {B3 bw mw bv mv mh : Nat} {a2 : Int} {i : Nat} {ds : List Nat} {sw sv : Wd} {w5 : World} {tmps : Array Value} (hp : tmps.getD 6 undef = .pointer (some ⟨B3 + 1 + 1, 0, none⟩))
    (h : PlI w B3 (B3 + 1) (B3 + 1 + 1) (mh + 1) bw mw bv mv mh a2 i ds sw sv w5) (hwB : w.heap.size ≤ B3) (h9 : B3 + 1 + 1 < mh + 1) :
    LeavesInM Fence.wide 9 Try.prog Try.f6 tmps (SameEnd w true) (ds.map (fun D => ({ target := .collected D, args := #[] } : Deferred))) .returning (w5.setCell ⟨B3 + 1 + 1, 0, none⟩ (.bool true)) := by
  have hB : ∀ D ∈ ds, D ≠ B3 + 1 + 1 := fun D hD e => by have := (h.dd D hD).2; omega
  have hs := h.bel.size
  refine leaves_ds ds _ (fun D hD => (Below.heap_setCell _ _ _ _ (hB D hD)).trans (h.dd D hD).1) h.nd (fun w' h1 h2 h3 h4 h5 => ?_)
  have hb : Boxed w' (B3 + 1 + 1) 4 (.bool true) := (h5 (B3 + 1 + 1) (fun hm => hB _ hm rfl)).trans (h.b6.set _)
  refine ⟨.bool true, results_cell1 (p := 6) (ty := 4) rfl _ _ ⟨B3 + 1 + 1, 0, none⟩ _ hp hb.cell ?_, rfl, ?_⟩
  · simp [isAgg, Try.underlying4]
  · refine ⟨h1.trans h.bel.os, h2.trans h.bel.tape, h3.trans h.bel.output, by rw [h4]; simpa using hs, fun j hj => ?_⟩
    refine (h5 j (fun hm => by have := (h.dd j hm).2; omega)).trans ((Below.heap_setCell _ _ _ _ (show j ≠ B3 + 1 + 1 by omega)).trans (h.bel.block j hj))
end Go.Proofs.Ythoekmedkmonhaa.Wi
