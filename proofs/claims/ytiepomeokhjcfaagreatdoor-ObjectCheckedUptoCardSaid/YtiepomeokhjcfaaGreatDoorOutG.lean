/-
  A list of our own that grows, of whatever elements, in the reckoned walk. No condition.
-/
import Derived.Test.YtiepomeokhjcfaaGreatDoorVl
import Derived.Test.YtiepomeokhjcfaaGreatDoorWide
namespace Go.Fl
open Go.Proofs Go.RowKit
set_option maxRecDepth 10000
set_option maxHeartbeats 4000000

abbrev flatG {α : Type} (cd : Cd α) (L : List α) : List Go.Value := V.vals (Bk.arr cd L).flat
def OutG {α : Type} (cd : Cd α) (ty : TypeId) (out : List α) (v : Go.Value) (bs : Hs) : Prop :=
  (out = [] ∧ v = .slice none 0 0 ∧ bs = []) ∨
  ∃ g cap spare, v = .slice (some ⟨g, 0, none⟩) out.length cap ∧ bs = [(g, (⟨g, ty, .arr cd out, spare⟩ : OB).obj)] ∧ Grew g out.length cap cd.sz (flatG cd out ++ spare).toArray (flatG cd out)
theorem flatG_app {α : Type} (cd : Cd α) (L M : List α) : flatG cd (L ++ M) = flatG cd L ++ flatG cd M := by
  simp only [flatG, Bk.flat, List.flatMap_append, vals_app]
theorem flatG_len {α : Type} (cd : Cd α) (L : List α) : (flatG cd L).length = L.length * cd.sz := by
  simp only [flatG, Bk.flat, vals_length, flat_len]
theorem flatG_one {α : Type} (cd : Cd α) (L : List α) : ∀ u ∈ flatG cd L, u.oneCell' = true := by
  intro u hu
  simp only [flatG, Bk.flat, vals_map, List.mem_map, List.mem_flatMap] at hu
  obtain ⟨v, ⟨x, _, hv⟩, rfl⟩ := hu
  exact cd.one x v.val (by rw [vals_map]; exact List.mem_map_of_mem hv)

theorem vapG {α : Type} {cd : Cd α} {C : Cx} {l0 rest : List Oper} {k : List Item} {e : VEnv} {ho : List OB} {tl : Hs} {tb : Tab} {d : Nat} {ty : TypeId} {pos : String} {af : Array Edge} {t et : TypeId} {by_ : Nat} {z : Go.Value} {out news : List α} {v : Go.Value} {yv : V} {bs qs : Hs} {b off c : Nat} {x y : Operand} (hT : TabOk C.P tb)
    (hO : OutG cd et out v bs) (ht : elemL tb t = some (et, cd.sz)) (h1 : sizeL tb et = some cd.sz) (h2 : bytesL tb et = some by_) (h3 : zeroL tb et = some z) (hz : z.cells.size = cd.sz) (hs0 : 0 < cd.sz) (hlen : out.length + news.length ≤ 70368744177664) (hby : (out.length + news.length) * by_ ≤ 140737488355328) (hm : 0 < news.length)
    (hd : Nat.blt d C.N = true) (hx : evV e x = some (.raw v)) (hy : evV e y = some yv) (hyv : yv.val = .slice (some ⟨b, off, none⟩) news.length c) (hnews : ∀ w, St C.W0 C.own (rh ho ++ tl) w → Reads w ⟨b, off, none⟩ (flatG cd news)) (htl : tl = bs ++ qs)
    (next : ∀ v' bs', OutG cd et (out ++ news) v' bs' → Here C (bs' ++ qs) (.ops l0 rest k) ((d, .raw v') :: e) ho) :
    Here C tl (.ops l0 (⟨some d, .call { callee := .builtin .append, args := #[x, y], argTypes := #[t, t] }, ty, pos, af, none⟩ :: rest) k) e ho := by
  subst htl
  have e1 := ev_re hx
  have e2 := ev_re hy
  rw [hyv] at e2
  simp only [V.val] at e1
  have hfin : ∀ g cap cur, Grew g (out.length + news.length) cap cd.sz cur (flatG cd out ++ flatG cd news) → OutG cd et (out ++ news) (.slice (some ⟨g, 0, none⟩) (out.length + news.length) cap) [(g, .cells cur et)] := by
    intro g cap cur hg
    rw [← flatG_app] at hg
    have hcur : cur = (flatG cd (out ++ news) ++ cur.toList.drop ((out.length + news.length) * cd.sz)).toArray := by
      have h := hg.cells
      rw [← h, List.take_append_drop]
    rw [hcur] at hg ⊢
    exact Or.inr ⟨g, cap, _, by rw [List.length_append], rfl, by rw [List.length_append]; exact hg⟩
  rcases hO with ⟨rfl, rfl, rfl⟩ | ⟨g, cap, spare, rfl, rfl, hg⟩
  · refine ⟨apNw hT hd e1 e2 ht h1 h2 h3 hz hm (by simpa using hlen) (by simpa using hby) hnews (flatG_len cd news) (fun g cap cur hg => ?_)⟩
    have := hfin g cap cur (by simpa [flatG, Bk.flat, V.vals] using hg)
    have h := ops_st (hs := (g, .cells cur et) :: (rh ho ++ qs)) (fun w h => h.perm List.perm_middle) (next _ _ this).go
    simp only [List.length_nil, Nat.zero_add] at h
    exact h
  · have hi : (rh ho ++ ([(g, (⟨g, et, .arr cd out, spare⟩ : OB).obj)] ++ qs))[(rh ho).length]? = some (g, .cells (flatG cd out ++ spare).toArray et) := by
      rw [List.getElem?_append_right (Nat.le_refl _), Nat.sub_self]; rfl
    refine ⟨apOw (rh ho).length hT hd e1 e2 hi hg ht h1 h2 h3 hz hs0 hlen hby hnews (flatG_len cd news) (flatG_one cd news) (fun g' cap' cur' hg' => ?_)⟩
    refine ops_st (fun w h => ?_) (next _ _ (hfin g' cap' cur' hg')).go
    rw [List.eraseIdx_append_of_length_le (Nat.le_refl _), Nat.sub_self] at h
    exact h.perm List.perm_middle
end Go.Fl
