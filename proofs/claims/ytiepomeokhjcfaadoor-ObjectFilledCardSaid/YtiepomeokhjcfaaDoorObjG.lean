/-
  Two objects held against each other. No condition beyond the lists' sizes.
-/
import Derived.Test.YtiepomeokhjcfaaDoorObjB
import Derived.Test.YtiepomeokhjcfaaDoorVq
namespace Go.Fl
open Go.Proofs Go.RowKit
set_option maxRecDepth 10000
set_option maxHeartbeats 40000000

def listsP (a b : Oj) : Prop := sameL a.labs b.labs = true ∧ sameL a.sel b.sel = true
def sizesP (a b : Oj) : Prop := (a.rcpu = b.rcpu ∧ a.rmem = b.rmem) ∧ a.ncpu = b.ncpu ∧ a.nmem = b.nmem
def namedP (a b : Oj) : Prop := (a.kind = b.kind ∧ tl a.name = tl b.name) ∧ tl a.dep = tl b.dep ∧ tl a.set = tl b.set ∧ tl a.node = tl b.node ∧ tl a.image = tl b.image ∧ tl a.holder = tl b.holder
instance (a b : Oj) : Decidable (listsP a b) := by unfold listsP; infer_instance
instance (a b : Oj) : Decidable (sizesP a b) := by unfold sizesP; infer_instance
instance (a b : Oj) : Decidable (namedP a b) := by unfold namedP; infer_instance
theorem bd_some {p q : Prop} {dp : Decidable p} {dq : Decidable q} (h : p ↔ q) : some (V.bd p dp).val = some (V.bd q dq).val := congrArg some (bd_bd h)
theorem bl_some {p : Prop} {dp : Decidable p} (h : p) : some (V.bl true).val = some (V.bd p dp).val := congrArg some (bd_t h).symm
theorem bf_some {p : Prop} {dp : Decidable p} (h : ¬ p) : some (V.bl false).val = some (V.bd p dp).val := congrArg some (bd_f h).symm

theorem same_iff (a b : Oj) : sameP a b ↔ listsP a b ∧ sizesP a b ∧ namedP a b ∧ ((a.cord = true ↔ b.cord = true) ∧ (a.drain = true ↔ b.drain = true) ∧ (a.lost = true ↔ b.lost = true) ∧ (a.ready = true ↔ b.ready = true) ∧ (a.ending = true ↔ b.ending = true) ∧ (a.paused = true ↔ b.paused = true) ∧ True) ∧
    (a.ver = b.ver ∧ a.born = b.born ∧ a.beat = b.beat ∧ a.phase = b.phase ∧ a.rise = b.rise ∧ a.fall = b.fall ∧ a.count = b.count ∧ a.surge = b.surge ∧ a.slack = b.slack ∧ a.least = b.least ∧ a.term = b.term ∧ a.till = b.till ∧ 0 = 0 ∧ True) ∧ a.hash = b.hash := by
  unfold sameP bareP listsP sizesP namedP
  simp only [← Bool.eq_iff_iff]
  constructor
  · rintro ⟨⟨⟨h1, h2, h3, h4, ⟨h5, h6⟩, ⟨h7, h8, h9⟩, h10⟩, ⟨h11, h12, h13, h14, ⟨h15, h16⟩, ⟨h17, h18⟩, h19, h20, h21⟩, h22, h23, h24, h25, h26, h27, h28, h29, h30⟩, h31, h32⟩
    simp_all
  · rintro ⟨⟨h31, h32⟩, ⟨⟨h5, h6⟩, h17, h18⟩, ⟨⟨h1, h2⟩, h11, h12, h13, h19, h28⟩, ⟨h7, h8, h9, h15, h16, h25, _⟩, ⟨h3, h4, h10, h14, h20, h21, h22, h23, h24, h27, h29, h30, _, _⟩, h26⟩
    simp_all

theorem alike (o p : Oj) (x y x' y' : Option Addr) (c d c' d' : Nat) (h1 : o.labs.length ≤ 4398046511000) (h2 : o.sel.length ≤ 4398046511000) : RetIf Tryd.prog 50 [(ov o x c y d).val, (ov p x' c' y' d').val]
    (fun w => (LabAt w x o.labs ∧ LabAt w y o.sel) ∧ LabAt w x' p.labs ∧ LabAt w y' p.sel) (V.bd (sameP o p) inferInstance).val := by
  refine ret_start2 Tryd.func50 rfl rfl rfl (fun w0 hw => ?_)
  obtain ⟨⟨ha, hb⟩, ha', hb'⟩ := hw
  refine vstart [(0, ov o x c y d), (1, ov p x' c' y' d')] [] [] ?_
  refine vwith (pt := .run _) _ _ [] tabOk lent_nil fun go => ?_
  apply go 6
  repeat' (first | apply And.intro | intro _)
  all_goals try (first | (show Here _ _ _ _; try (exfalso; omega)) | exact trivial | omega | kernel_rfl | exact rfl)
  rename_i b1 b2
  apply go 1
  refine vseq [(2, .ptr true 0 b1 0 1 0 0), (3, .ptr true 1 b2 0 1 0 0), (5, .bd (listsP o p) inferInstance)] [⟨b1, 38, .var (ocs o (labV o.labs x c) (labV o.sel y d)), []⟩, ⟨b2, 38, .var (ocs p (labV p.labs x' c') (labV p.sel y' d')), []⟩] [] (fun k' hk => ?_) ?_
  · refine vwithR (pt := .ops _ _ _) _ _ [] tabOk lent_nil fun goR => ?_
    apply goR 300
    repeat' (first | apply And.intro | intro _)
    all_goals try (first | (show Here _ _ _ _; try (exfalso; omega)) | exact trivial | omega | kernel_rfl | exact rfl)
    refine vcall (v := .bd (sameL o.labs p.labs = true) inferInstance) rfl rfl (by kernel_rfl) (EqualL o.labs p.labs x x' c c' h1) (by exact fun _ h => ⟨ha.st h, ha'.st h⟩) ?_
    apply goR 300
    repeat' (first | apply And.intro | intro _)
    all_goals try (first | (show Here _ _ _ _; try (exfalso; omega)) | exact trivial | omega | kernel_rfl | exact rfl)
    · refine vcall (v := .bd (sameL o.sel p.sel = true) inferInstance) rfl rfl (by kernel_rfl) (EqualL o.sel p.sel y y' d d' h2) (by exact fun _ h => ⟨hb.st h, hb'.st h⟩) ?_
      apply goR 300
      repeat' (first | apply And.intro | intro _)
      all_goals try (first | (show Here _ _ _ _; try (exfalso; omega)) | exact trivial | omega | kernel_rfl | exact rfl)
      rename_i h
      exact hk _ _ _ ⟨rfl, rfl, bd_some (by unfold listsP; simp [h]), trivial⟩ (List.Sublist.refl _)
    · rename_i h
      exact hk _ _ _ ⟨rfl, rfl, bf_some (by unfold listsP; simp [h]), trivial⟩ (List.Sublist.refl _)
  apply go 1
  refine vseq [(2, .ptr true 0 b1 0 1 0 0), (3, .ptr true 1 b2 0 1 0 0), (5, .bd (listsP o p) inferInstance), (6, .bd (sizesP o p) inferInstance)] [⟨b1, 38, .var (ocs o (labV o.labs x c) (labV o.sel y d)), []⟩, ⟨b2, 38, .var (ocs p (labV p.labs x' c') (labV p.sel y' d')), []⟩] [] (fun k' hk => ?_) ?_
  · refine vwithR (pt := .ops _ _ _) _ _ [] tabOk lent_nil fun goR => ?_
    apply goR 300
    repeat' (first | apply And.intro | intro _)
    all_goals try (first | (show Here _ _ _ _; try (exfalso; omega)) | exact trivial | omega | kernel_rfl | exact rfl)
    · rename_i h
      exact hk _ _ _ ⟨rfl, rfl, rfl, bd_some (by unfold sizesP; simp [h]), trivial⟩ (List.Sublist.refl _)
    · rename_i h
      exact hk _ _ _ ⟨rfl, rfl, rfl, bf_some (by unfold sizesP; intro h2; exact h ⟨h2.1.1, h2.1.2, trivial⟩), trivial⟩ (List.Sublist.refl _)
  apply go 1
  refine vseqD [(2, .ptr true 0 b1 0 1 0 0), (3, .ptr true 1 b2 0 1 0 0), (5, .bd (listsP o p) inferInstance), (6, .bd (sizesP o p) inferInstance), (7, .bd (namedP o p) inferInstance)] [⟨b1, 38, .var (ocs o (labV o.labs x c) (labV o.sel y d)), []⟩, ⟨b2, 38, .var (ocs p (labV p.labs x' c') (labV p.sel y' d')), []⟩] [] (flagsOf _) (by kernel_rfl) (by decide +kernel) (flags_len _) (fun k' hk => ?_) ?_
  · refine vwithR (pt := .drw _ _ _ _) _ _ [] tabOk lent_nil fun goR => ?_
    apply goR 300
    repeat' (first | apply And.intro | intro _)
    all_goals try (first | (show Here _ _ _ _; try (exfalso; omega)) | exact trivial | omega | kernel_rfl | exact rfl)
    refine vcallD (v := .agg [.int .i64 o.kind, .str o.name]) rfl rfl (by kernel_rfl) (KeyOf o x y c d) (by exact fun _ _ => trivial) ?_
    apply goR 300
    repeat' (first | apply And.intro | intro _)
    all_goals try (first | (show Here _ _ _ _; try (exfalso; omega)) | exact trivial | omega | kernel_rfl | exact rfl)
    refine vcallD (v := .agg [.int .i64 p.kind, .str p.name]) rfl rfl (by kernel_rfl) (KeyOf p x' y' c' d') (by exact fun _ _ => trivial) ?_
    apply goR 300
    repeat' (first | apply And.intro | intro _)
    all_goals try (first | (show Here _ _ _ _; try (exfalso; omega)) | exact trivial | omega | kernel_rfl | exact rfl)
    all_goals first
      | exact hk _ _ _ ⟨rfl, rfl, rfl, rfl, bd_some (by unfold namedP; simp_all), trivial⟩ (List.Sublist.refl _)
      | exact hk _ _ _ ⟨rfl, rfl, rfl, rfl, bf_some (by unfold namedP; simp_all), trivial⟩ (List.Sublist.refl _)
  refine vwith (pt := .run _) _ _ [] tabOk lent_nil fun go => ?_
  apply go 600
  repeat' (first | apply And.intro | intro _)
  all_goals try (first | (show Here _ _ _ _; try (exfalso; omega)) | exact trivial | omega | kernel_rfl | exact rfl)
  all_goals first
    | exact vr1 rfl rfl (bd_f (fun h => by obtain ⟨_, _, _, _, _, _⟩ := (same_iff _ _).1 h; contradiction))
    | exact vr1 rfl rfl (bd_bd ⟨fun h => ((same_iff _ _).1 h).2.2.2.2.2, fun h => (same_iff _ _).2 ⟨‹_›, ‹_›, ‹_›, ‹_›, ‹_›, h⟩⟩)
end Go.Fl
