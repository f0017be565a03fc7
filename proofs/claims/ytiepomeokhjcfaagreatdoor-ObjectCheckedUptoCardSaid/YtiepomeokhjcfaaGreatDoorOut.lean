/-
  A slice of labels of our own that grows. No condition.
-/
import Derived.Test.YtiepomeokhjcfaaGreatDoorLabE0
import Derived.Test.YtiepomeokhjcfaaGreatDoorRound2
namespace Go.Fl
open Go.Proofs Go.RowKit
set_option maxRecDepth 10000
set_option maxHeartbeats 4000000

/-- A slice of labels of our own that grows. -/
def OutAt (out : List Lab) (v : Go.Value) (bs : Hs) : Prop :=
  (out = [] ∧ v = .slice none 0 0 ∧ bs = []) ∨
  ∃ g cap spare, v = .slice (some ⟨g, 0, none⟩) out.length cap ∧ bs = [(g, .cells (blockL out spare) 125)] ∧ Grew g out.length cap 2 (blockL out spare) (cellsL out)

theorem cellsL_app (L : List Lab) (x : Lab) : cellsL (L ++ [x]) = cellsL L ++ [.string x.1, .string x.2] := by
  induction L with
  | nil => rfl
  | cons y L ih => simp only [List.cons_append, cellsL, ih]


/-- One label more, whatever else there is. -/
theorem apLq {C : Cx} {ops : Array Oper} {rest : List Oper} {k : List Item} {e : Env} {bs qs : Hs} {d b : Nat} {ty : TypeId} {pos : String} {af : Array Edge} {x y : Operand} {out : List Lab} {l : Lab} {v : Go.Value} (hT : TabOk C.P tab) (hd : Nat.blt d C.N = true)
    (ho : OutAt out v bs) (hlen : out.length ≤ 4000000) (hx : ev e x = some v) (hy : ev e y = some (.slice (some ⟨b, 0, none⟩) 1 1))
    (next : ∀ v' bs', OutAt (out ++ [l]) v' bs' → Ops C ops rest k ((d, v') :: e) (bs' ++ qs)) :
    Ops C ops (⟨some d, .call { callee := .builtin .append, args := #[x, y], argTypes := #[22, 22] }, ty, pos, af, none⟩ :: rest) k e (bs ++ (b, .cells #[.string l.1, .string l.2] 125) :: qs) := by
  have hnews : ∀ (hs : Hs), (b, Obj.cells #[.string l.1, .string l.2] 125) ∈ hs → ∀ w, St C.W0 C.own hs w → Reads w ⟨b, 0, none⟩ [.string l.1, .string l.2] := fun hs hm w hst =>
    (reads_of_block (hst.has _ hm) 2 0 [.string l.1, .string l.2] rfl).1
  have hfin : ∀ g cap cur, Grew g (out.length + 1) cap 2 cur (cellsL out ++ [.string l.1, .string l.2]) → OutAt (out ++ [l]) (.slice (some ⟨g, 0, none⟩) (out.length + 1) cap) [(g, .cells cur 125)] := by
    intro g cap cur hg
    rw [← cellsL_app] at hg
    obtain ⟨spare, rfl⟩ := grew_block (L := out ++ [l]) hg rfl (by simp)
    exact Or.inr ⟨g, cap, spare, by simp, rfl, by simpa using hg⟩
  have hdrop : ∀ (x : Nat × Obj) w, St C.W0 C.own (x :: (b, Obj.cells #[.string l.1, .string l.2] 125) :: qs) w → St C.W0 C.own ([x] ++ qs) w := fun x w h =>
    h.sub (List.Sublist.cons_cons _ (List.Sublist.cons _ (List.Sublist.refl _)))
  rcases ho with ⟨rfl, rfl, rfl⟩ | ⟨g, cap, spare, rfl, rfl, hg⟩
  · refine apN (news := [.string l.1, .string l.2]) hT hd hx hy rfl rfl rfl rfl rfl (by decide) (by decide) (by decide) (hnews _ (by simp)) rfl (fun g cap cur hg => ?_)
    exact ops_st (hdrop (g, _)) (next _ _ (hfin g cap cur hg))
  · refine apO 0 (news := [.string l.1, .string l.2]) (xs := cellsL out) hT hd hx hy rfl hg rfl rfl rfl rfl rfl (by decide) (by omega) (by decide) (hnews _ (by simp)) rfl (by intro u hu; simp at hu; rcases hu with rfl | rfl <;> rfl) (fun g' cap' cur' hg' => ?_)
    exact ops_st (hdrop (g', _)) (next _ _ (hfin g' cap' cur' hg'))

/-- It reads as these labels. -/
theorem outAt_lab {out : List Lab} {v : Go.Value} {bs : Hs} (h : OutAt out v bs) : ∃ a c, v = .slice a out.length c ∧ out.length ≤ c ∧ ∀ (W0 w : World) (own : List Nat) (hs : Hs), (∀ x ∈ bs, x ∈ hs) → St W0 own hs w → LabAt w a out := by
  rcases h with ⟨rfl, rfl, rfl⟩ | ⟨g, cap, spare, rfl, rfl, hg⟩
  · exact ⟨none, 0, rfl, Nat.le_refl _, fun _ _ _ _ _ _ => ⟨(fun b off h => by cases h), fun h => absurd rfl h⟩⟩
  · refine ⟨some ⟨g, 0, none⟩, cap, rfl, hg.le, fun W0 w own hs hm hst => ⟨fun b off ha => ?_, fun _ => ⟨g, 0, rfl⟩⟩⟩
    cases ha
    have hb := hst.has _ (hm _ (List.mem_singleton.2 rfl))
    have key : ∀ (vs : List Go.Value) (pre : List Go.Value) (c : List Go.Value), (pre ++ vs ++ c).toArray = blockL out spare → Reads w ⟨g, pre.length, none⟩ vs := by
      intro vs
      induction vs with
      | nil => intro _ _ _; trivial
      | cons x vs ih =>
        intro pre c hc
        refine ⟨?_, ?_⟩
        · simp only [World.cell?, hb, ← hc]
          simp
        · rw [add_none]
          have := ih (pre ++ [x]) c (by simpa using hc)
          simpa using this
    exact key (cellsL out) [] spare (by simp [blockL])
end Go.Fl
