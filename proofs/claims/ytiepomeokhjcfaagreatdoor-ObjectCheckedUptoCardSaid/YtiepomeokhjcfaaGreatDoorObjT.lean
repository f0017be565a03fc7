/-
  The digest of what an object's pods are like. No condition beyond its sizes.
-/
import Derived.Test.YtiepomeokhjcfaaGreatDoorVl
import Derived.Lib.ConvBytes
import Derived.Test.YtiepomeokhjcfaaGreatDoorObj
import Derived.Test.YtiepomeokhjcfaaGreatDoorVr
namespace Go.Fl
open Go.Proofs Go.RowKit
set_option maxRecDepth 10000
set_option maxHeartbeats 4000000

def bytesV (s : ByteArray) : List Go.Value := (tl s).map fun c => Go.Value.int .u8 (c.toNat : Int)
theorem vcb {C : Cx} {l0 rest : List Oper} {k : List Item} {e : VEnv} {ho : List OB} {tl : Hs} {d : Nat} {ty : TypeId} {pos : String} {af : Array Edge} {src dst et : TypeId} {u : TypeDesc} {x : Operand} {s : ByteArray}
    (hd : Nat.blt d C.N = true) (hs : C.P.underlying src = some u) (hdst : C.P.underlying dst = some (.slice et)) (he : C.P.underlying et = some (.int .u8)) (hx : evV e x = some (.str s))
    (next : ∀ b cap o, (∀ (W0 w : World) (own : List Nat) (hs : Hs), (b, o) ∈ hs → St W0 own hs w → Reads w ⟨b, 0, none⟩ (bytesV s)) → Here C ((b, o) :: tl) (.ops l0 rest k) ((d, .raw (.slice (some ⟨b, 0, none⟩) s.size cap)) :: e) ho) :
    Here C tl (.ops l0 (⟨some d, .convert src dst x, ty, pos, af, none⟩ :: rest) k) e ho := by
  have e1 := ev_re hx
  simp only [V.val] at e1
  refine ⟨op_some (Φ := fun v' hs' => ∃ b cap o, (v' = .slice (some ⟨b, 0, none⟩) s.size cap ∧ hs' = (b, o) :: (rh ho ++ tl)) ∧ ∀ (W0 w : World) (own : List Nat) (hs : Hs), (b, o) ∈ hs → St W0 own hs w → Reads w ⟨b, 0, none⟩ (bytesV s)) hd (fun a w ok => ?_) ?_⟩
  · refine ⟨_, _, Lib.bytesWorld w et s, ?_, ?_, w.heap.size, grownCap w s.size 0 et, .cells (Lib.bytesCells w et s) et ((Lib.bytesCells w et s).size, (Lib.bytesCells w et s).size + 1), ⟨rfl, rfl⟩, ?_⟩
    · simp [execOp, ok.e.eval e1, Lib.run_convert_string_bytes w src dst et s hs hdst he]
    · exact St.more (w' := Lib.bytesWorld w et s) ok.st ⟨rfl, rfl, rfl, by rw [Lib.bytesWorld_size]; omega, fun k hk => Lib.bytesWorld_at_old w et s k hk⟩ (Nat.le_refl _) (Lib.bytesWorld_at_new w et s)
    · intro W0 w2 own hs2 hm hst
      have hb := hst.has _ hm
      refine reads_ix _ _ fun j v hj => ?_
      have hlt := (List.getElem?_eq_some_iff.1 hj).1
      have hlt2 : j < s.data.size := by simpa [bytesV, Fl.tl] using hlt
      simp only [World.cell?, hb, Option.isSome_none, Bool.false_eq_true, if_false, Nat.zero_add, Lib.bytesCells]
      rw [Array.getElem?_append_left (by simpa using hlt2)]
      simpa [bytesV, Fl.tl] using hj
  · rintro v hs' ⟨b, cap, o, ⟨rfl, rfl⟩, h⟩
    exact ops_st (fun w h => h.perm List.perm_middle) (next b cap o h).go
end Go.Fl

namespace Go.Fl
open Go.Proofs Go.RowKit
set_option maxRecDepth 10000
set_option maxHeartbeats 4000000

def cdB : Cd Int where
  sz := 1
  enc x := [.int .u8 x]
  dec
    | [.int .u8 x] => some x
    | _ => none
  hsz _ := rfl
  hdec c x h := by
    split at h
    · cases h; rfl
    · cases h
  one x v hv := by
    simp only [V.vals, V.val, List.mem_cons, List.not_mem_nil, or_false] at hv
    subst hv; rfl
theorem vals_cdB : ∀ l : List Int, V.vals (Bk.arr cdB l).flat = l.map fun x => Go.Value.int .u8 x
  | [] => rfl
  | x :: l => by
    have := vals_cdB l
    simp only [Bk.flat, List.flatMap_cons, vals_app] at this ⊢
    rw [this]; rfl
abbrev sumB (b : Nat) (h : Int) : Nat × Obj := (b, .cells #[.int .u64 h] 130)
abbrev sumO (b : Nat) (h : Int) : OB := ⟨b, 130, .var [.int .u64 h], []⟩
theorem bytesD (h : Int) (l : List Int) (sb bb off c : Nat) (hn : l.length ≤ 9223372036854775807) : Con Tryz.prog 154 [.pointer (some ⟨sb, 0, none⟩), .slice (some ⟨bb, off, none⟩) l.length c] [sumB sb h]
    (fun w => bb ≠ sb ∧ Reads w ⟨bb, off, none⟩ (l.map fun x => Go.Value.int .u8 x)) (fun v bs => v = .tuple #[] ∧ bs = [sumB sb (bytesH h l)]) := by
  refine con_start2 Tryz.func154 rfl rfl rfl (fun w0 hw => ?_)
  obtain ⟨hne, hw⟩ := hw
  refine vstart [(0, .ptr true 0 sb 0 1 0 0), (1, .sl false 0 bb off 1 none l.length c)] [sumO sb h] [] ?_
  refine vwith (pt := .run _) _ _ [⟨bb, off, .arr cdB l⟩] tabOk (lent_cons (by simpa using hne) (by rw [vals_cdB]; exact hw) lent_nil) fun go => ?_
  apply go 300
  repeat' (first | apply And.intro | intro _)
  all_goals try (first | (show Here _ _ _ _; try (exfalso; omega)) | exact trivial | omega | kernel_rfl | exact rfl)
  refine vrounds (fun i : Nat => i ≤ l.length) (fun i => l.length - i) (fun i => [(0, .ptr true 0 sb 0 1 0 0), (6, .sl false 0 bb off 1 none l.length c), (7, .nat l.length), (8, .nat i)]) (fun i => [sumO sb (bytesH h (l.take i))]) (fun _ => []) 0 (fun i hi ih => ?_) (Nat.zero_le _) ⟨rfl, rfl, rfl, rfl, trivial⟩ (List.Sublist.refl _)
  by_cases hl : i < l.length
  · apply go 300
    repeat' (first | apply And.intro | intro _)
    all_goals try (first | (show Here _ _ _ _; try (exfalso; omega)) | exact trivial | omega | kernel_rfl | exact rfl)
    rename_i x hx
    refine vweak _ _ _ (ih (i + 1) (by omega) (by omega)) ⟨rfl, rfl, rfl, rfl, trivial⟩ (by
      have : bytesH h (l.take (i + 1)) = mixH (bytesH h (l.take i)) x := by unfold bytesH; rw [List.take_add_one, hx, List.foldl_append]; rfl
      rw [this]
      exact List.Sublist.refl _)
  · apply go 300
    repeat' (first | apply And.intro | intro _)
    all_goals try (first | (show Here _ _ _ _; try (exfalso; omega)) | exact trivial | omega | kernel_rfl | exact rfl)
    obtain rfl : i = l.length := by omega
    refine vc0 rfl ⟨rfl, rfl⟩ ?_
    rw [List.take_length]
    exact List.Sublist.refl _
theorem two_ne {W0 w : World} {own : List Nat} {x y : Nat × Obj} {r : Hs} (h : St W0 own (x :: y :: r) w) : y.1 ≠ x.1 := by
  have := h.nodup
  simp only [List.map_cons, List.nodup_cons, List.mem_cons, not_or] at this
  exact fun e => this.1.1 e.symm
theorem numberD (h n : Int) (sb : Nat) : Con Tryz.prog 153 [.pointer (some ⟨sb, 0, none⟩), .int .i64 n] [sumB sb h] (fun _ => True) (fun v bs => v = .tuple #[] ∧ bs = [sumB sb (numH h n)]) := by
  refine con_start2 Tryz.func153 rfl rfl rfl (fun w0 hw => ?_)
  refine vstart [(0, .ptr true 0 sb 0 1 0 0), (1, .int .i64 n)] [sumO sb h] [] ?_
  refine vwith (pt := .run _) _ _ [] tabOk lent_nil fun go => ?_
  apply go 300
  repeat' (first | apply And.intro | intro _)
  all_goals try (first | (show Here _ _ _ _; try (exfalso; omega)) | exact trivial | omega | kernel_rfl | exact rfl)
  refine vrounds (fun s : Nat × Int × Int => s.1 ≤ 8 ∧ numR (8 - s.1) s.2.1 s.2.2 = numH h n) (fun s => 8 - s.1) (fun s => [(0, .ptr true 0 sb 0 1 0 0), (4, .int .u64 s.2.2), (7, .nat s.1)]) (fun s => [sumO sb s.2.1]) (fun _ => []) (0, h, IntKind.u64.wrap n) (fun s hI ih => ?_) ⟨Nat.zero_le _, rfl⟩ ⟨rfl, rfl, rfl, trivial⟩ (List.Sublist.refl _)
  obtain ⟨i, g, v⟩ := s
  obtain ⟨hi, hI⟩ := hI
  simp only at hi hI ih ⊢
  by_cases hl : i < 8
  · apply go 300
    repeat' (first | apply And.intro | intro _)
    all_goals try (first | (show Here _ _ _ _; try (exfalso; omega)) | exact trivial | omega | kernel_rfl | exact rfl)
    rename_i bb
    refine vccp (bs := [sumB sb g]) (qs := [(bb, .cells #[.int .u8 (IntKind.u8.wrap v)] 5)]) rfl rfl (by kernel_rfl) (List.Perm.refl _) (bytesD g [IntKind.u8.wrap v] sb bb 0 1 (by simp)) (by exact fun w hst => ⟨two_ne hst, (reads_of_block (hst.has _ (List.mem_cons_of_mem _ List.mem_cons_self)) 1 0 _ rfl).1⟩) ?_
    rintro _ _ ⟨rfl, rfl⟩
    refine ⟨.tup [], rfl, ?_⟩
    refine vopen [sumO sb (mixH g (IntKind.u8.wrap v))] [(bb, .cells #[.int .u8 (IntKind.u8.wrap v)] 5)] ?_ rfl rfl
    apply go 300
    repeat' (first | apply And.intro | intro _)
    all_goals try (first | (show Here _ _ _ _; try (exfalso; omega)) | exact trivial | omega | kernel_rfl | exact rfl)
    refine vweak _ _ _ (ih (i + 1, mixH g (IntKind.u8.wrap v), v.fdiv (2 ^ 8)) ⟨by simp only; omega, ?_⟩ (by simp only; omega)) ⟨rfl, rfl, rfl, trivial⟩ (List.Sublist.cons_cons _ (List.nil_sublist _))
    simp only
    rw [← hI, show 8 - i = (8 - (i + 1)) + 1 by omega]
    rfl
  · apply go 300
    repeat' (first | apply And.intro | intro _)
    all_goals try (first | (show Here _ _ _ _; try (exfalso; omega)) | exact trivial | omega | kernel_rfl | exact rfl)
    obtain rfl : i = 8 := by omega
    refine vc0 rfl ⟨rfl, rfl⟩ ?_
    rw [← hI]
    exact List.Sublist.refl _
def tyF : Fd → TypeId
  | .inl _ => 3
  | .inr _ => 9
def vaF : Fd → V
  | .inl n => .int .i64 n
  | .inr s => .str s
def cdF : Cd Fd where
  sz := 1
  enc x := [.ifc (tyF x) (vaF x)]
  dec _ := none
  hsz _ := rfl
  hdec c x h := by cases h
  one x v hv := by
    simp only [V.vals, V.val, List.mem_cons, List.not_mem_nil, or_false] at hv
    subst hv; rfl
def szF : Fd → Prop
  | .inl _ => True
  | .inr s => s.size ≤ 9223372036854775807
theorem bytesI_len (s : ByteArray) : (bytesI s).length = s.size := by rw [size_tl]; simp [bytesI]
theorem fieldsD (h : Int) (l : List Fd) (sb bb c : Nat) (hn : l.length ≤ 1000) (hsz : ∀ x ∈ l, szF x) : Con Tryz.prog 102 [.pointer (some ⟨sb, 0, none⟩), .slice (some ⟨bb, 0, none⟩) l.length c] [sumB sb h]
    (fun w => bb ≠ sb ∧ Reads w ⟨bb, 0, none⟩ (V.vals (Bk.arr cdF l).flat)) (fun v bs => v = .tuple #[] ∧ bs = [sumB sb (l.foldl fieldH h)]) := by
  refine con_start2 Tryz.func102 rfl rfl rfl (fun w0 hw => ?_)
  obtain ⟨hne, hw⟩ := hw
  refine vstart [(0, .ptr true 0 sb 0 1 0 0), (1, .sl false 0 bb 0 1 none l.length c)] [] [sumB sb h] ?_
  refine vwith (pt := .run _) _ _ [⟨bb, 0, .arr cdF l⟩] tabOk (lent_cons (by simpa using hne) hw lent_nil) fun go => ?_
  apply go 300
  repeat' (first | apply And.intro | intro _)
  all_goals try (first | (show Here _ _ _ _; try (exfalso; omega)) | exact trivial | omega | kernel_rfl | exact rfl)
  refine vrounds (fun i : Nat => i ≤ l.length) (fun i => l.length - i) (fun i => [(0, .ptr true 0 sb 0 1 0 0), (8, .sl false 0 bb 0 1 none l.length c), (9, .nat l.length), (10, .nat i)]) (fun _ => []) (fun i => [sumB sb ((l.take i).foldl fieldH h)]) 0 (fun i hi ih => ?_) (Nat.zero_le _) ⟨rfl, rfl, rfl, rfl, trivial⟩ (List.Sublist.refl _)
  by_cases hl : i < l.length
  · have hstep : ∀ x, l[i]? = some x → (l.take (i + 1)).foldl fieldH h = fieldH ((l.take i).foldl fieldH h) x := fun x hx => by rw [List.take_add_one, hx, List.foldl_append]; rfl
    apply go 300
    repeat' (first | apply And.intro | intro _)
    all_goals try (first | (show Here _ _ _ _; try (exfalso; omega)) | exact trivial | omega | kernel_rfl | exact rfl)
    rename_i y hy
    have hsy := hsz y (List.mem_of_getElem? hy)
    have hst := hstep y hy
    cases y with
    | inl n =>
      repeat' (first | apply And.intro | intro _)
      all_goals try (first | (show Here _ _ _ _; try (exfalso; omega)) | exact trivial | omega | kernel_rfl | exact rfl)
      refine vccp (bs := [sumB sb ((l.take i).foldl fieldH h)]) (qs := []) rfl rfl (by kernel_rfl) (List.Perm.refl _) (numberD _ n sb) (by exact fun _ _ => trivial) ?_
      rintro _ _ ⟨rfl, rfl⟩
      refine ⟨.tup [], rfl, ?_⟩
      apply go 300
      repeat' (first | apply And.intro | intro _)
      all_goals try (first | (show Here _ _ _ _; try (exfalso; omega)) | exact trivial | omega | kernel_rfl | exact rfl)
      refine vweak _ _ _ (ih (i + 1) (by omega) (by omega)) ⟨rfl, rfl, rfl, rfl, trivial⟩ ?_
      rw [hst]
      exact List.Sublist.refl _
    | inr s =>
      repeat' (first | apply And.intro | intro _)
      all_goals try (first | (show Here _ _ _ _; try (exfalso; omega)) | exact trivial | omega | kernel_rfl | exact rfl)
      refine vccp (bs := [sumB sb ((l.take i).foldl fieldH h)]) (qs := []) rfl rfl (by kernel_rfl) (List.Perm.refl _) (numberD _ (Int.ofNat s.size) sb) (by exact fun _ _ => trivial) ?_
      rintro _ _ ⟨rfl, rfl⟩
      refine ⟨.tup [], rfl, ?_⟩
      apply go 300
      repeat' (first | apply And.intro | intro _)
      all_goals try (first | (show Here _ _ _ _; try (exfalso; omega)) | exact trivial | omega | kernel_rfl | exact rfl)
      refine vcb rfl Tryz.underlying9 Tryz.underlying151 Tryz.underlying5 rfl ?_
      intro b cap o hrd
      have hB := bytesD (numH ((l.take i).foldl fieldH h) (Int.ofNat s.size)) (bytesI s) sb b 0 cap (by rw [bytesI_len]; exact hsy)
      rw [bytesI_len] at hB
      apply go 300
      repeat' (first | apply And.intro | intro _)
      all_goals try (first | (show Here _ _ _ _; try (exfalso; omega)) | exact trivial | omega | kernel_rfl | exact rfl)
      refine vccp (bs := [sumB sb (numH ((l.take i).foldl fieldH h) (Int.ofNat s.size))]) (qs := [(b, o)]) rfl rfl (by kernel_rfl) (List.Perm.swap _ _ _) hB (by exact fun w hst => ⟨(two_ne hst).symm, by have := hrd _ _ _ _ List.mem_cons_self hst; rw [show (bytesI s).map (fun x => Go.Value.int .u8 x) = bytesV s from by unfold bytesI bytesV; rw [List.map_map]; rfl]; exact this⟩) ?_
      rintro _ _ ⟨rfl, rfl⟩
      refine ⟨.tup [], rfl, ?_⟩
      apply go 300
      repeat' (first | apply And.intro | intro _)
      all_goals try (first | (show Here _ _ _ _; try (exfalso; omega)) | exact trivial | omega | kernel_rfl | exact rfl)
      refine vweak _ _ _ (ih (i + 1) (by omega) (by omega)) ⟨rfl, rfl, rfl, rfl, trivial⟩ ?_
      rw [hst]
      exact List.Sublist.cons_cons _ (List.nil_sublist _)
  · apply go 300
    repeat' (first | apply And.intro | intro _)
    all_goals try (first | (show Here _ _ _ _; try (exfalso; omega)) | exact trivial | omega | kernel_rfl | exact rfl)
    obtain rfl : i = l.length := by omega
    refine vc0 rfl ⟨rfl, rfl⟩ ?_
    rw [List.take_length]
    exact List.Sublist.refl _
end Go.Fl

namespace Go.Fl
open Go.Proofs Go.RowKit
set_option maxRecDepth 10000
set_option maxHeartbeats 4000000

theorem st_ne {W0 w : World} {own : List Nat} {hs : Hs} (h : St W0 own hs w) (i j : Nat) {x y : Nat × Obj} (hi : hs[i]? = some x) (hj : hs[j]? = some y) (hij : i ≠ j) : x.1 ≠ y.1 := by
  have hn := h.nodup
  intro e
  have h1 : (hs.map (·.1))[i]? = some x.1 := by rw [List.getElem?_map, hi]; rfl
  have h2 : (hs.map (·.1))[j]? = some x.1 := by rw [List.getElem?_map, hj, e]; rfl
  exact hij ((List.getElem?_inj (List.getElem?_eq_some_iff.1 h1).1 hn).1 (h1.trans h2.symm))
def SzL (L : List Lab) : Prop := ∀ x ∈ L, x.1.size ≤ 9223372036854775807 ∧ x.2.size ≤ 9223372036854775807
def Sz (o : Oj) : Prop := o.image.size ≤ 9223372036854775807 ∧ SzL o.labs
theorem Template (o : Oj) (a a' : Option Addr) (c c' : Nat) (hn : o.labs.length ≤ 4398046511000) (hsz : Sz o) : RetIf Tryz.prog 45 [(ov o a c a' c').val] (fun w => LabAt w a o.labs) (.int .u64 (templH o)) := by
  refine ret_start1 Tryz.func45 rfl rfl rfl (fun w0 hw => ?_)
  refine vstart [(0, ov o a c a' c')] [] [] ?_
  refine vwith (pt := .run _) _ _ [] tabOk lent_nil fun go => ?_
  apply go 300
  repeat' (first | apply And.intro | intro _)
  all_goals try (first | (show Here _ _ _ _; try (exfalso; omega)) | exact trivial | omega | kernel_rfl | exact rfl)
  rename_i b1 sb b27
  have hf := fieldsD 14695981039346656037 [.inr o.image, .inl o.ncpu, .inl o.nmem, .inl o.rise, .inl o.fall, .inl o.labs.length] sb b27 6 (by simp) (by intro x hx; simp only [List.mem_cons, List.not_mem_nil, or_false] at hx; rcases hx with rfl | rfl | rfl | rfl | rfl | rfl <;> first | exact trivial | exact hsz.1)
  refine vccp (bs := [sumB sb 14695981039346656037]) (qs := [_, _]) rfl rfl (by kernel_rfl) (List.Perm.swap _ _ _) hf (by exact fun w hst => ⟨st_ne hst 2 1 rfl rfl (by decide), (reads_of_block (hst.has _ (List.mem_cons_of_mem _ (List.mem_cons_of_mem _ List.mem_cons_self))) 6 0 _ rfl).1⟩) ?_
  rintro _ _ ⟨rfl, rfl⟩
  refine ⟨.tup [], rfl, ?_⟩
  refine vopenP [⟨b1, 27, .var (ocs o (labV o.labs a c) (labV o.sel a' c')), []⟩, sumO sb (([.inr o.image, .inl o.ncpu, .inl o.nmem, .inl o.rise, .inl o.fall, .inl o.labs.length] : List Fd).foldl fieldH 14695981039346656037)] [_] (List.Perm.swap _ _ _) ?_
  apply go 300
  repeat' (first | apply And.intro | intro _)
  all_goals try (first | (show Here _ _ _ _; try (exfalso; omega)) | exact trivial | omega | kernel_rfl | exact rfl)
  generalize hh : (([.inr o.image, .inl o.ncpu, .inl o.nmem, .inl o.rise, .inl o.fall, .inl o.labs.length] : List Fd).foldl fieldH 14695981039346656037) = h6
  have hT : templH o = o.labs.foldl labH h6 := by rw [← hh]; rfl
  clear hf hh
  refine vrounds (fun i : Nat => i ≤ o.labs.length) (fun i => o.labs.length - i) (fun i => [(3, .ptr true 0 sb 0 1 0 0), (30, labV o.labs a c), (31, .nat o.labs.length), (32, .nat i)]) (fun i => [sumO sb ((o.labs.take i).foldl labH h6)]) (fun _ => []) 0 (fun i hi ih => ?_) (Nat.zero_le _) ⟨rfl, rfl, rfl, rfl, trivial⟩ (List.Sublist.cons _ (List.Sublist.cons_cons _ (List.nil_sublist _)))
  by_cases hl : i < o.labs.length
  · obtain ⟨b, off, rfl⟩ := hw.is (by rintro h0; rw [h0] at hl; simp at hl)
    have hR := hw.go b off rfl
    refine vre [(3, .ptr true 0 sb 0 1 0 0), (30, .sl false 0 b off 2 none o.labs.length c), (31, .nat o.labs.length), (32, .nat i)] rfl ?_
    refine vwith (pt := .run _) _ _ [⟨b, off, .arr cdL o.labs⟩] tabOk (lent_lab lent_nil List.not_mem_nil hR) fun go => ?_
    apply go 300
    repeat' (first | apply And.intro | intro _)
    all_goals try (first | (show Here _ _ _ _; try (exfalso; omega)) | exact trivial | omega | kernel_rfl | exact rfl)
    rename_i x hx b5 b42
    have hsx := hsz.2 x (List.mem_of_getElem? hx)
    have hst : (o.labs.take (i + 1)).foldl labH h6 = labH ((o.labs.take i).foldl labH h6) x := by rw [List.take_add_one, hx, List.foldl_append]; rfl
    have hf := fieldsD ((o.labs.take i).foldl labH h6) [.inr x.1, .inr x.2] sb b42 2 (by simp) (by intro y hy; simp only [List.mem_cons, List.not_mem_nil, or_false] at hy; rcases hy with rfl | rfl; exact hsx.1; exact hsx.2)
    refine vccp (bs := [sumB sb _]) (qs := [_, _]) rfl rfl (by kernel_rfl) (List.Perm.refl _) hf (by exact fun w hst => ⟨st_ne hst 2 0 rfl rfl (by decide), (reads_of_block (hst.has _ (List.mem_cons_of_mem _ (List.mem_cons_of_mem _ List.mem_cons_self))) 2 0 _ rfl).1⟩) ?_
    rintro _ _ ⟨rfl, rfl⟩
    refine ⟨.tup [], rfl, ?_⟩
    refine vopen [sumO sb (labH ((o.labs.take i).foldl labH h6) x)] [_, _] ?_ rfl rfl
    apply go 300
    repeat' (first | apply And.intro | intro _)
    all_goals try (first | (show Here _ _ _ _; try (exfalso; omega)) | exact trivial | omega | kernel_rfl | exact rfl)
    refine vweak _ _ _ (ih (i + 1) (by omega) (by omega)) ⟨rfl, rfl, rfl, rfl, trivial⟩ ?_
    rw [hst]
    exact List.Sublist.cons_cons _ (List.nil_sublist _)
  · apply go 300
    repeat' (first | apply And.intro | intro _)
    all_goals try (first | (show Here _ _ _ _; try (exfalso; omega)) | exact trivial | omega | kernel_rfl | exact rfl)
    obtain rfl : i = o.labs.length := by omega
    exact vr1 rfl rfl (by rw [hT, List.take_length]; rfl)
end Go.Fl
