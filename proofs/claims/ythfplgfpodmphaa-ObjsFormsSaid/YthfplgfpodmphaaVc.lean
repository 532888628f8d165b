/- The evaluator by value: what it tells, the model does. -/
import Derived.Laws.AppendOwn
import Derived.Laws.CopyRow
import Derived.Laws.Tables
import Derived.Great.BuildSlice
import Derived.Laws.IdiomStrings
import Derived.Laws.MakeOwn
import Derived.Laws.BytesString
import Derived.Orders
import Derived.Laws.Strings2
import Derived.Tactics
import Derived.Scope
import Derived.Below
import Derived.Test.YthfplgfpodmphaaVE1
namespace Go.Proofs.Ythfplgfpodmphaa.VE
/-- What is known of a world beside a state: where each name lies (block, first cell, cells a row, rows till the end of its capacity); which cells never turn any more; which blocks may be marked. -/
structure Gh where
  loc : Nat → Option (Nat × Nat × Nat × Nat)
  imm : Nat → Nat → Prop
  soft : Nat → Prop
def capOk (c : Option Nat) (cap : Nat) : Prop := ∀ k, c = some k → cap = k
mutual
/-- A value by value, and Go's. -/
def VR (G : Gh) (w : World) : PV → Value → Prop
  | .lit x, v => v = x
  | .agg l, v => ∃ vs : List Value, v = .agg vs.toArray ∧ VRl G w l vs ∧ ∀ u ∈ vs, plainV u = true
  | .tup l, v => ∃ vs : List Value, v = .tuple vs.toArray ∧ VRl G w l vs
  | .sl z r c, v => (r = [] ∧ v = .slice none 0 0 ∧ capOk c.get 0 ∧ ∀ k, c ≠ .mine k) ∨
      ∃ b o cap, v = .slice (some ⟨b, o, none⟩) r.length cap ∧ r.length ≤ cap ∧ capOk c.get cap ∧ (∀ k, c = .mine k → G.soft b) ∧ Rw G w b z o r
  | .rf g o n c, v => ∃ b o0 sz ce a cap, G.loc g = some (b, o0, sz, ce) ∧ v = .slice (some a) n cap ∧ n ≤ cap ∧ o + cap ≤ ce ∧ capOk c cap ∧ (c = none → cap = ce - o) ∧ (cap ≠ 0 → a = ⟨b, o0 + o * sz, none⟩) ∧ a.spot = none
  | .ptr g i k, v => ∃ b o0 sz ce, G.loc g = some (b, o0, sz, ce) ∧ v = .pointer (some ⟨b, o0 + i * sz + k, none⟩)
  | .rp l k, v => ∃ b o, v = .pointer (some ⟨b, o + k, none⟩) ∧ Cl G w b o l
  | .fn f a c, v => ∃ as cs : List Value, v = .func f as.toArray cs.toArray ∧ VRl G w a as ∧ VRl G w c cs
def VRl (G : Gh) (w : World) : List PV → List Value → Prop
  | [], vs => vs = []
  | x :: r, vs => ∃ v t, vs = v :: t ∧ VR G w x v ∧ VRl G w r t
/-- Cells that never turn hold these. -/
def Cl (G : Gh) (w : World) (b : Nat) : Nat → List PV → Prop
  | _, [] => True
  | o, x :: r => (∃ v, w.cell? ⟨b, o, none⟩ = some v ∧ VR G w x v ∧ plainV v = true ∧ G.imm b o) ∧ Cl G w b (o + 1) r
def Rw (G : Gh) (w : World) (b sz : Nat) : Nat → List (List PV) → Prop
  | _, [] => True
  | o, x :: r => x.length = sz ∧ Cl G w b o x ∧ Rw G w b sz (o + sz) r
end
end Go.Proofs.Ythfplgfpodmphaa.VE
