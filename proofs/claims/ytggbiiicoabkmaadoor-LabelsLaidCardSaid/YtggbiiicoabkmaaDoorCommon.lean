/-
  labels.Common, what it hands out, and labels.Matches. No condition beyond the lists' sizes.
-/
import Derived.Test.YtggbiiicoabkmaaDoorVl
import Derived.Test.YtggbiiicoabkmaaDoorOut
namespace Go.Fl
open Go.Proofs Go.RowKit
set_option maxRecDepth 10000
set_option maxHeartbeats 4000000

/-! plain -/
def isLab (x y : Lab) : Bool := decide (tl x.1 = tl y.1 ∧ tl x.2 = tl y.2)
def inL (x : Lab) (B : List Lab) : Bool := B.any (isLab x)
def commonL (A B : List Lab) : List Lab := A.filter fun x => inL x B
theorem common_step {A B : List Lab} {i : Nat} {x : Lab} (hx : A[i]? = some x) : commonL (A.take (i + 1)) B = commonL (A.take i) B ++ (if inL x B = true then [x] else []) := by
  unfold commonL
  rw [List.take_add_one, hx, List.filter_append]
  congr 1
  cases h : inL x B <;> simp [h]
theorem inL_step {x y : Lab} {B : List Lab} {j : Nat} (hy : B[j]? = some y) (h : inL x (B.take j) = false) (hn : ¬ (tl x.1 = tl y.1 ∧ tl x.2 = tl y.2 ∧ True)) : inL x (B.take (j + 1)) = false := by
  unfold inL at h ⊢
  rw [List.take_add_one, hy, List.any_append, h]
  simpa [isLab] using hn
theorem inL_found {x y : Lab} {B : List Lab} {j : Nat} (hy : B[j]? = some y) (h : tl x.1 = tl y.1 ∧ tl x.2 = tl y.2 ∧ True) : inL x B = true :=
  List.any_eq_true.2 ⟨y, List.mem_of_getElem? hy, by simp [isLab, h.1, h.2.1]⟩
theorem common_len (A B : List Lab) : (commonL A B).length ≤ A.length := List.length_filter_le _ _
theorem lab_ext {x y : Lab} (h1 : tl x.1 = tl y.1) (h2 : tl x.2 = tl y.2) : x = y := by
  obtain ⟨⟨⟨a⟩⟩, ⟨⟨b⟩⟩⟩ := x
  obtain ⟨⟨⟨c⟩⟩, ⟨⟨d⟩⟩⟩ := y
  simp only [tl] at h1 h2
  subst h1 h2
  rfl
def boxLs (b : Nat) (u : Go.Value) : Nat × Obj := (b, .cells #[u] 22)

/-! a call of yield in the reckoned walk -/
theorem voy {C : Cx} {l0 rest : List Oper} {k : List Item} {e : VEnv} {ho : List OB} {tl : Hs} {d : Nat} {ty : TypeId} {pos : String} {af : Array Edge} {x : Operand} {l : Nat} {r : Loop} {q : Option Nat} {xs : Array Operand} {vs : List V} {at_ : Array TypeId} {post : Go.Value → Hs → Prop}
    (hrd : C.rd = some q) (hd : Nat.blt d C.N = true) (hx0 : evV e x = some (.raw (.func (.yield l) #[] #[]))) (hx : evVs e xs.toList = some vs) (hl : (l, Obj.loop r) ∈ tl) (hsz : (V.vals vs).length = r.params.size) (h : Rnd C.P l r (yieldTmps r (V.vals vs)) tl post)
    (next : ∀ v hs', post v hs' → ∃ v' : V, v = v'.val ∧ Here C hs' (.ops l0 rest k) ((d, v') :: e) ho) : Here C tl (.ops l0 (⟨some d, .call { callee := .value x, args := xs, argTypes := at_ }, ty, pos, af, none⟩ :: rest) k) e ho := by
  have h1 := oy (C := C) (ops := l0.toArray) (rest := rest) (k := k) (ty := ty) (pos := pos) (af := af) (at_ := at_) (bs := tl) (rest' := rh ho) (hs := rh ho ++ tl) hrd hd (ev_re hx0) (evs_re hx) List.perm_append_comm hl hsz h (fun v hs' hp => by
    obtain ⟨v', rfl, hn⟩ := next v hs' hp
    exact ops_st (fun w hst => hst.perm List.perm_append_comm) hn.go)
  rw [Array.toArray_toList] at h1
  exact ⟨h1⟩
theorem Con.ret {P : Program} {f : FuncId} {args : List Go.Value} {pre : World → Prop} {v : Go.Value} (h : Con P f args [] pre fun v' _ => v' = v) : RetIf P f args pre v :=
  ⟨fun w hw => (h.go w (St.start w) hw).mono (by rintro en w' ⟨v', hs', rfl, hst, rfl⟩; exact ⟨rfl, hst.below⟩)⟩

/-! walks -/
theorem CommonC (A B : List Lab) (a b : Option Addr) (ca cb : Nat) (hA : A.length ≤ 4398046511000) (hB : B.length ≤ 4398046511000) : Con Tryd.prog 67 [.slice a A.length ca, .slice b B.length cb] [] (fun w => LabAt w a A ∧ LabAt w b B)
    (fun v bs => ∃ bx u obs, v = .func (.func 100) #[] #[.pointer (some ⟨bx, 0, none⟩)] ∧ bs = boxLs bx u :: obs ∧ OutAt (commonL A B) u obs) := by
  refine con_start2 Tryd.func67 rfl rfl rfl (fun w0 hw => ?_)
  obtain ⟨hwa, hwb⟩ := hw
  refine vstart [(0, .raw (.slice a A.length ca)), (1, .raw (.slice b B.length cb))] [] [] ?_
  refine vwith (pt := .run _) _ _ [] tabOk lent_nil fun go => ?_
  apply go 300
  repeat' (first | apply And.intro | intro _)
  all_goals try (first | (show Here _ _ _ _; try (exfalso; omega)) | exact trivial | omega | kernel_rfl | exact rfl)
  rename_i b5
  refine vrounds (fun s : Nat × Go.Value × Hs => s.1 ≤ A.length ∧ OutAt (commonL (A.take s.1) B) s.2.1 s.2.2) (fun s => A.length - s.1) (fun s => [(1, .raw (.slice b B.length cb)), (5, .ptr true 0 b5 0 1 0 0), (10, .raw (.slice a A.length ca)), (11, .nat A.length), (12, .nat s.1)])
    (fun s => [⟨b5, 22, .var [.raw s.2.1], []⟩]) (fun s => s.2.2)
    (0, .slice none 0 0, []) (fun s hI ih => ?_) ⟨Nat.zero_le _, Or.inl ⟨rfl, rfl, rfl⟩⟩ ⟨rfl, rfl, rfl, rfl, rfl, trivial⟩ (List.Sublist.refl _)
  obtain ⟨i, u, obs⟩ := s
  obtain ⟨hi, hO⟩ := hI
  simp only at hi hO ih ⊢
  by_cases hl : i < A.length
  · obtain ⟨ba, offa, rfl⟩ := hwa.is (by rintro rfl; simp at hl)
    have hR := hwa.go ba offa rfl
    refine vre [(1, .raw (.slice b B.length cb)), (5, .ptr true 0 b5 0 1 0 0), (10, .sl false 0 ba offa 2 none A.length ca), (11, .nat A.length), (12, .nat i)] rfl ?_
    refine vwith (pt := .run _) _ _ [⟨ba, offa, .arr cdL A⟩] tabOk (lent_lab lent_nil List.not_mem_nil hR) fun go => ?_
    have hcl := common_len (A.take i) B
    rw [List.length_take] at hcl
    apply go 300
    repeat' (first | apply And.intro | intro _)
    all_goals try (first | (show Here _ _ _ _; try (exfalso; omega)) | exact trivial | omega | kernel_rfl | exact rfl)
    rename_i x hx bx
    have hst := common_step (B := B) hx
    refine vrounds (fun j : Nat => j ≤ B.length ∧ inL x (B.take j) = false) (fun j => B.length - j) (fun j => [(1, .raw (.slice b B.length cb)), (5, .ptr true 0 b5 0 1 0 0), (7, .ptr true 1 bx 0 2 0 0), (10, .raw (.slice (some ⟨ba, offa, none⟩) A.length ca)), (11, .nat A.length), (12, .nat i), (16, .raw (.slice b B.length cb)), (17, .nat B.length), (18, .nat j)])
      (fun _ => [⟨b5, 22, .var [.raw u], []⟩, ⟨bx, 62, .var [.str x.1, .str x.2], []⟩]) (fun _ => obs)
      0 (fun j hJ jh => ?_) ⟨Nat.zero_le _, rfl⟩ ⟨rfl, rfl, rfl, rfl, rfl, rfl, rfl, rfl, rfl, trivial⟩ (List.Sublist.refl _)
    obtain ⟨hj, hnot⟩ := hJ
    by_cases hjl : j < B.length
    · obtain ⟨bb, offb, rfl⟩ := hwb.is (by rintro rfl; simp at hjl)
      have hRb := hwb.go bb offb rfl
      refine vre [(1, .raw (.slice (some ⟨bb, offb, none⟩) B.length cb)), (5, .ptr true 0 b5 0 1 0 0), (7, .ptr true 1 bx 0 2 0 0), (10, .raw (.slice (some ⟨ba, offa, none⟩) A.length ca)), (11, .nat A.length), (12, .nat i), (16, .sl false 0 bb offb 2 none B.length cb), (17, .nat B.length), (18, .nat j)] rfl ?_
      refine vwith (pt := .run _) _ _ [⟨bb, offb, .arr cdL B⟩] tabOk (lent_lab lent_nil List.not_mem_nil hRb) fun go => ?_
      apply go 300
      repeat' (first | apply And.intro | intro _)
      all_goals try (first | (show Here _ _ _ _; try (exfalso; omega)) | exact trivial | omega | kernel_rfl | exact rfl)
      · rename_i y hy by_ heq b27
        refine vapL [⟨b5, 22, .var [.raw u], []⟩, ⟨bx, 62, .var [.str x.1, .str x.2], []⟩, ⟨by_, 62, .var [.str y.1, .str y.2], []⟩] (l := x) (qs := []) tabOk hO (by omega) rfl rfl rfl rfl rfl (List.append_nil _).symm ?_
        intro v' bs' hO'
        obtain ⟨a', c', rfl, _, _⟩ := outAt_lab hO'
        rw [List.append_nil]
        apply go 300
        repeat' (first | apply And.intro | intro _)
        all_goals try (first | (show Here _ _ _ _; try (exfalso; omega)) | exact trivial | omega | kernel_rfl | exact rfl)
        refine vweak _ _ _ (ih (i + 1, _, bs') ⟨by simp only; omega, ?_⟩ (by simp only; omega)) ⟨rfl, rfl, rfl, rfl, rfl, trivial⟩ (List.Sublist.cons_cons _ (List.Sublist.cons _ (List.Sublist.cons _ (List.Sublist.refl _))))
        rw [hst, inL_found hy heq]
        exact hO'
      · rename_i y hy by_ heq
        exact vweak _ _ _ (jh (j + 1) ⟨by omega, inL_step hy hnot heq⟩ (by omega)) ⟨rfl, rfl, rfl, rfl, rfl, rfl, rfl, rfl, rfl, trivial⟩ (List.Sublist.cons_cons _ (List.Sublist.cons_cons _ (List.Sublist.cons _ (List.Sublist.refl _))))
    · obtain rfl : j = B.length := by omega
      rw [List.take_length] at hnot
      rw [hnot] at hst
      apply go 300
      repeat' (first | apply And.intro | intro _)
      all_goals try (first | (show Here _ _ _ _; try (exfalso; omega)) | exact trivial | omega | kernel_rfl | exact rfl)
      refine vweak _ _ _ (ih (i + 1, u, obs) ⟨by simp only; omega, ?_⟩ (by simp only; omega)) ⟨rfl, rfl, rfl, rfl, rfl, trivial⟩ (List.Sublist.cons_cons _ (List.Sublist.cons _ (List.Sublist.refl _)))
      rw [hst]
      simpa using hO
  · obtain rfl : i = A.length := by omega
    rw [List.take_length] at hO
    apply go 300
    repeat' (first | apply And.intro | intro _)
    all_goals try (first | (show Here _ _ _ _; try (exfalso; omega)) | exact trivial | omega | kernel_rfl | exact rfl)
    exact vc1 (bs := boxLs b5 u :: obs) rfl rfl (List.Sublist.refl _) ⟨b5, u, obs, rfl, rfl, hO⟩

/-- What it hands out, one after the other. -/
def labV (x : Lab) : Go.Value := .agg #[.string x.1, .string x.2]
theorem commonIt {L : List Lab} {u : Go.Value} {obs : Hs} (hO : OutAt L u obs) (hn : L.length ≤ 4398046511000) {bx l : Nat} {r : Loop} (Inv : Nat → Hs → Prop) (Stop : Hs → Prop) (hl : ∀ i bs, Inv i bs → (l, Obj.loop r) ∈ bs) (hp : r.params.size = 1)
    (hy : ∀ i x bs, L[i]? = some x → Inv i bs → Rnd Tryd.prog l r (yieldTmps r [labV x]) bs (fun v hs' => (v = .bool true ∧ Inv (i + 1) hs') ∨ (v = .bool false ∧ Stop hs'))) (bs : Hs) (h0 : Inv 0 bs) :
    Con Tryd.prog 100 [.func (.yield l) #[] #[], .pointer (some ⟨bx, 0, none⟩)] (boxLs bx u :: (obs ++ bs)) (fun _ => True)
      (fun _ hs' => ∃ hs1, hs' = boxLs bx u :: (obs ++ hs1) ∧ (Inv L.length hs1 ∨ Stop hs1)) := by
  refine con_startR2 Tryd.func100 rfl rfl rfl (fun w0 _ => ?_)
  rcases hO with ⟨rfl, rfl, rfl⟩ | ⟨g, cap, spare, rfl, rfl, hg⟩
  · refine vstart [(0, .raw (.func (.yield l) #[] #[])), (1, .ptr true 0 bx 0 1 0 0)] [⟨bx, 22, .var [.raw (.slice none 0 0)], []⟩] bs ?_
    refine vwith (pt := .run _) _ _ [] tabOk lent_nil fun go => ?_
    apply go 300
    repeat' (first | apply And.intro | intro _)
    all_goals try (first | (show Here _ _ _ _; try (exfalso; omega)) | exact trivial | omega | kernel_rfl | exact rfl)
    refine vrounds (fun _ : Nat => True) (fun _ => 0) (fun _ => [(6, .nat 0), (7, .nat 0)]) (fun _ => [⟨bx, 22, .var [.raw (.slice none 0 0)], []⟩]) (fun _ => bs) 0 (fun _ _ _ => ?_) trivial ⟨rfl, rfl, trivial⟩ (List.Sublist.refl _)
    apply go 300
    repeat' (first | apply And.intro | intro _)
    all_goals try (first | (show Here _ _ _ _; try (exfalso; omega)) | exact trivial | omega | kernel_rfl | exact rfl)
    exact ⟨run_end rfl (fun w' hst => ⟨_, boxLs bx _ :: bs, rfl, hst, bs, rfl, Or.inl h0⟩)⟩
  · have hob : (g, Obj.cells (blockL L spare) 62) = ((⟨g, 62, .arr cdL L, spare⟩ : OB).b, (⟨g, 62, .arr cdL L, spare⟩ : OB).obj) := by simp only [OB.obj, vals_cdL, blockL]
    rw [hob]
    have hle := hg.le
    refine vstart [(0, .raw (.func (.yield l) #[] #[])), (1, .ptr true 0 bx 0 1 0 0)] [⟨bx, 22, .var [.sl true 1 g 0 2 none L.length cap], []⟩, ⟨g, 62, .arr cdL L, spare⟩] bs ?_
    refine vwith (pt := .run _) _ _ [] tabOk lent_nil fun go => ?_
    apply go 300
    repeat' (first | apply And.intro | intro _)
    all_goals try (first | (show Here _ _ _ _; try (exfalso; omega)) | exact trivial | omega | kernel_rfl | exact rfl)
    refine vrounds (fun s : Nat × Hs => s.1 ≤ L.length ∧ Inv s.1 s.2) (fun s => L.length - s.1) (fun s => [(0, .raw (.func (.yield l) #[] #[])), (5, .sl true 1 g 0 2 none L.length cap), (6, .nat L.length), (7, .nat s.1)])
      (fun _ => [⟨bx, 22, .var [.sl true 1 g 0 2 none L.length cap], []⟩, ⟨g, 62, .arr cdL L, spare⟩]) (fun s => s.2) (0, bs) (fun s hI ih => ?_) ⟨Nat.zero_le _, h0⟩ ⟨rfl, rfl, rfl, rfl, trivial⟩ (List.Sublist.refl _)
    obtain ⟨i, bs⟩ := s
    obtain ⟨hi, hIn⟩ := hI
    simp only at hi hIn ih ⊢
    apply go 300
    repeat' (first | apply And.intro | intro _)
    all_goals try (first | (show Here _ _ _ _; try (exfalso; omega)) | exact trivial | omega | kernel_rfl | exact rfl)
    · rename_i h x hx b4
      refine voy rfl rfl rfl rfl (hl i bs hIn) (by rw [hp]; rfl) (hy i x bs hx hIn) ?_
      rintro v hs' (⟨rfl, hI'⟩ | ⟨rfl, hS⟩)
      · refine ⟨.bl true, rfl, ?_⟩
        apply go 300
        repeat' (first | apply And.intro | intro _)
        all_goals try (first | (show Here _ _ _ _; try (exfalso; omega)) | exact trivial | omega | kernel_rfl | exact rfl)
        exact vweak _ _ _ (ih (i + 1, hs') ⟨by simp only; omega, hI'⟩ (by simp only; omega)) ⟨rfl, rfl, rfl, rfl, trivial⟩ (List.Sublist.cons_cons _ (List.Sublist.cons_cons _ (List.Sublist.cons _ (List.Sublist.refl _))))
      · refine ⟨.bl false, rfl, ?_⟩
        apply go 300
        repeat' (first | apply And.intro | intro _)
        all_goals try (first | (show Here _ _ _ _; try (exfalso; omega)) | exact trivial | omega | kernel_rfl | exact rfl)
        exact ⟨run_ret (ts := []) (vs := []) rfl rfl (fun w' hst => ⟨_, _ :: _ :: hs', rfl, hst.sub (List.Sublist.cons_cons _ (List.Sublist.cons_cons _ (List.Sublist.cons _ (List.Sublist.refl _)))), hs', rfl, Or.inr hS⟩)⟩
    · rename_i h
      obtain rfl : i = L.length := by omega
      exact ⟨run_end rfl (fun w' hst => ⟨_, _ :: _ :: bs, rfl, hst, bs, rfl, Or.inl hIn⟩)⟩

/-- rf with the loop as a variable. -/
theorem vrf {C : Cx} {k : List Item} {e : VEnv} {ho : List OB} {tl : Hs} {g : Operand} {ps : Array Tmp} {assign body : Code} {f : FuncId} {first captured : List V} (hrd : C.rd = some none) (hg : evV e g = some (.fn f first captured)) (hf : isFn C.P f = true)
    (Φ : Nat → Nat → Option Code → Hs → Prop)
    (hcall : ∀ (m l : Nat) (r : Loop), r = { state := .ready, pending := none, fn := C.f, tmps := r.tmps, params := ps, assign := assign, body := body, defers := m } → r.tmps.size = C.N → (∀ d, EnvOk (rE e) { tmps := r.tmps, defers := d }) →
      Con C.P f (V.vals first ++ [.func (.yield l) #[] #[]] ++ V.vals captured) ((l, .loop r) :: (m, .deferred (some [])) :: (rh ho ++ tl)) (fun w => ∃ w0, St C.W0 C.own (rh ho ++ tl) w0 ∧ Below w0.heap.size w0 w)
        (fun _ hs' => ∃ r hs1, hs' = (l, .loop r) :: (m, .deferred (some [])) :: hs1 ∧ r.state ≠ .busy ∧ Φ m l r.pending hs1))
    (next : ∀ m l jump hs1, Φ m l jump hs1 → Run { C with ms := m :: C.ms } ((jump.map Item.code).toList ++ k) (rE e) ((m, .deferred (some [])) :: hs1)) : Here C tl (.run (.code (.rangeFunc g ps assign body) :: k)) e ho :=
  ⟨rf hrd (ev_re hg) hf Φ (fun m l tmps h1 h2 => hcall m l _ rfl h1 h2) next⟩

def matchL (A B : List Lab) : Bool := decide ((commonL A B).length = A.length)
theorem Matches (A B : List Lab) (a b : Option Addr) (ca cb : Nat) (hA : A.length ≤ 4398046511000) (hB : B.length ≤ 4398046511000) : RetIf Tryd.prog 35 [.slice a A.length ca, .slice b B.length cb] (fun w => LabAt w a A ∧ LabAt w b B) (.bool (matchL A B)) := by
  refine Con.ret ?_
  refine con_startR2 Tryd.func35 rfl rfl rfl (fun w0 hw => ?_)
  refine vstart [(0, .raw (.slice a A.length ca)), (1, .raw (.slice b B.length cb))] [] [] ?_
  refine vwith (pt := .run _) _ _ [] tabOk lent_nil fun go => ?_
  apply go 300
  repeat' (first | apply And.intro | intro _)
  all_goals try (first | (show Here _ _ _ _; try (exfalso; omega)) | exact trivial | omega | kernel_rfl | exact rfl)
  rename_i b5
  refine vcc rfl rfl (by kernel_rfl) (CommonC A B a b ca cb hA hB) (by exact fun w hst => ⟨hw.1.st (hst.sub (List.nil_sublist _)), hw.2.st (hst.sub (List.nil_sublist _))⟩) ?_
  rintro v bs ⟨bx, u, obs, rfl, rfl, hO⟩
  refine ⟨.fn 100 [] [.raw (.pointer (some ⟨bx, 0, none⟩))], rfl, ?_⟩
  rw [List.append_nil]
  apply go 300
  repeat' (first | apply And.intro | intro _)
  all_goals try (first | (show Here _ _ _ _; try (exfalso; omega)) | exact trivial | omega | kernel_rfl | exact rfl)
  clear go
  have hcl := common_len A B
  refine vrf rfl rfl (by kernel_rfl) (fun m l jump hs1 => jump = none ∧ hs1 = (b5, .cells #[.int .i64 ((commonL A B).length : Nat)] 3) :: boxLs bx u :: obs) (fun m l r hr htm henv => ?_) (fun m l jump hs1 hΦ => ?_)
  · have hyt : ∀ x, yieldTmps r [labV x] = r.tmps.setIfInBounds 9 (labV x) := fun x => by simp [yieldTmps, show r.params = #[9] from congrArg Loop.params hr]
    refine Con.conv (commonIt hO (by omega) (bx := bx) (l := l) (r := r) (fun i bs => bs = [(l, .loop r), (m, .deferred (some [])), (b5, .cells #[.int .i64 (i : Nat)] 3)]) (fun _ => False)
      (by rintro i bs rfl; exact List.mem_cons_self) (by rw [hr]; rfl) (fun i x bs hx hI => ?_) _ rfl) ?_ (fun _ _ => trivial) (fun v hs' hv => ?_)
    · subst hI
      have hi : i < (commonL A B).length := (List.getElem?_eq_some_iff.1 hx).1
      refine rnd_start (e := (9, labV x) :: _) (by rw [hr]; exact Tryd.func35) (n := 16) (by rw [hyt, Array.size_setIfInBounds]; exact htm) (fun d => by rw [hyt]; exact (henv d).put (by show 9 < r.tmps.size; rw [htm]; exact (by decide : 9 < 16)) (labV x)) (fun w => ?_)
      have hra : r.assign = _ := congrArg Loop.assign hr
      have hrb : r.body = _ := congrArg Loop.body hr
      rw [hra, hrb]
      repeat' (first | (first | (apply o1; exact rfl; apply pv; exact rfl; exact rfl) | apply nl | apply sq | apply rg | (apply gy; exact rfl; exact rfl) | (apply gn; exact rfl; exact rfl; exact rfl; exact rfl) | (apply gu; exact rfl; exact rfl; exact rfl; exact rfl) | (apply gs; exact rfl; exact rfl; all_goals intro _) | (apply gb; exact rfl; exact rfl; all_goals intro _) | (apply it; exact rfl) | (apply fi; exact rfl) | (apply cd; exact rfl; all_goals intro _) | (apply cb; exact rfl; all_goals intro _) | apply bl | (apply xt; exact rfl) | apply sk | apply ib | (apply o1; exact rfl; (first | (apply pv; exact rfl; exact rfl) | (apply p_ls; exact rfl; kernel_rfl) | (apply p_ll; exact rfl; kernel_rfl) | (apply p_ic; exact rfl; omega) | (apply p_s1; exact rfl; omega; omega) | (apply p_sb; exact rfl; exact rfl; omega; omega) | (apply p_ad; exact rfl; exact rfl; omega) | (apply p_be; exact rfl; exact rfl; kernel_rfl) | (apply p_bn; exact rfl; exact rfl; kernel_rfl) | (apply p_en; exact rfl; exact rfl; kernel_rfl) | (apply p_nn; exact rfl; exact rfl; kernel_rfl) | (apply p_cv; exact rfl; exact int_of tabOk rfl; kernel_rfl) | (apply p_mi; exact rfl; exact p_mi_ok (kind_of tabOk rfl) rfl) | (apply p_fa; exact rfl; exact field_of tabOk rfl) | (apply p_nc; exact rfl) | (apply p_bk; exact rfl; omega; omega; kernel_rfl) | (apply p_by; exact rfl; exact rfl; omega; kernel_rfl) | (apply p_ia; exact rfl; exact rfl; exact elem_of tabOk rfl; omega) | (apply p_ar; exact rfl; exact rfl; exact rfl) | (apply p_bd tabOk; exact rfl; exact rfl; exact rfl; exact ⟨rfl, rfl⟩))) | (apply o2; exact rfl; (first | (apply r_l1 0; exact shape_of tabOk rfl; exact rfl; exact rfl; exact rfl) | (apply r_ln 0; exact shape_of tabOk rfl; exact rfl; exact rfl; exact rfl) | (apply r_l1 1; exact shape_of tabOk rfl; exact rfl; exact rfl; exact rfl) | (apply r_ln 1; exact shape_of tabOk rfl; exact rfl; exact rfl; exact rfl) | (apply r_l1 2; exact shape_of tabOk rfl; exact rfl; exact rfl; exact rfl) | (apply r_ln 2; exact shape_of tabOk rfl; exact rfl; exact rfl; exact rfl) | (apply r_l1 3; exact shape_of tabOk rfl; exact rfl; exact rfl; exact rfl) | (apply r_ln 3; exact shape_of tabOk rfl; exact rfl; exact rfl; exact rfl))) | (apply al; exact rfl; exact zero_of tabOk rfl; intro _) | (apply bx; exact rfl; exact rfl; intro _) | (apply sw 0; exact size_of tabOk rfl; exact rfl; exact rfl; exact rfl; exact rfl; exact rfl; exact rfl; exact rfl) | (apply so 0; exact size_of tabOk rfl; exact rfl; exact rfl; exact rfl; exact rfl; exact so_le rfl; exact so_one rfl) | (apply sw 1; exact size_of tabOk rfl; exact rfl; exact rfl; exact rfl; exact rfl; exact rfl; exact rfl; exact rfl) | (apply so 1; exact size_of tabOk rfl; exact rfl; exact rfl; exact rfl; exact rfl; exact so_le rfl; exact so_one rfl) | (apply sw 2; exact size_of tabOk rfl; exact rfl; exact rfl; exact rfl; exact rfl; exact rfl; exact rfl; exact rfl) | (apply so 2; exact size_of tabOk rfl; exact rfl; exact rfl; exact rfl; exact rfl; exact so_le rfl; exact so_one rfl) | (apply sw 3; exact size_of tabOk rfl; exact rfl; exact rfl; exact rfl; exact rfl; exact rfl; exact rfl; exact rfl) | (apply so 3; exact size_of tabOk rfl; exact rfl; exact rfl; exact rfl; exact rfl; exact so_le rfl; exact so_one rfl) | (apply rr1; exact rfl; exact rfl) | (apply rr2; exact rfl; exact rfl; exact rfl) | (apply rr3; exact rfl; exact rfl; exact rfl; exact rfl)) | (apply br 0; exact rfl; exact rfl; exact congrArg Loop.state hr))
      refine re 0 rfl rfl (fun w' hst => ⟨_, [(l, .loop r), (m, .deferred (some [])), (b5, .cells #[.int .i64 ((i + 1 : Nat) : Int)] 3)], rfl, ?_, Or.inl ⟨rfl, rfl⟩⟩)
      have hrr : ({ r with state := .ready, pending := none } : Loop) = r := by rw [hr]
      rw [← hrr]
      exact hst
    · exact List.perm_append_comm (l₁ := [_, _, _]) (l₂ := boxLs bx u :: obs)
    · obtain ⟨hs1, rfl, rfl | h⟩ := hv
      · exact ⟨_, List.perm_append_comm (l₁ := [_, _, _]) (l₂ := boxLs bx u :: obs), r, _, rfl, by rw [hr]; simp, by rw [hr], rfl⟩
      · exact h.elim
  · obtain ⟨rfl, rfl⟩ := hΦ
    simp only [Option.map_none, Option.toList_none, List.nil_append]
    repeat' (first | (apply o1; exact rfl; apply pv; exact rfl; exact rfl) | apply nl | apply sq | apply rg | (apply gy; exact rfl; exact rfl) | (apply gn; exact rfl; exact rfl; exact rfl; exact rfl) | (apply gu; exact rfl; exact rfl; exact rfl; exact rfl) | (apply gs; exact rfl; exact rfl; all_goals intro _) | (apply gb; exact rfl; exact rfl; all_goals intro _) | (apply it; exact rfl) | (apply fi; exact rfl) | (apply cd; exact rfl; all_goals intro _) | (apply cb; exact rfl; all_goals intro _) | apply bl | (apply xt; exact rfl) | apply sk | apply ib | (apply o1; exact rfl; (first | (apply pv; exact rfl; exact rfl) | (apply p_ls; exact rfl; kernel_rfl) | (apply p_ll; exact rfl; kernel_rfl) | (apply p_ic; exact rfl; omega) | (apply p_s1; exact rfl; omega; omega) | (apply p_sb; exact rfl; exact rfl; omega; omega) | (apply p_ad; exact rfl; exact rfl; omega) | (apply p_be; exact rfl; exact rfl; kernel_rfl) | (apply p_bn; exact rfl; exact rfl; kernel_rfl) | (apply p_en; exact rfl; exact rfl; kernel_rfl) | (apply p_nn; exact rfl; exact rfl; kernel_rfl) | (apply p_cv; exact rfl; exact int_of tabOk rfl; kernel_rfl) | (apply p_mi; exact rfl; exact p_mi_ok (kind_of tabOk rfl) rfl) | (apply p_fa; exact rfl; exact field_of tabOk rfl) | (apply p_nc; exact rfl) | (apply p_bk; exact rfl; omega; omega; kernel_rfl) | (apply p_by; exact rfl; exact rfl; omega; kernel_rfl) | (apply p_ia; exact rfl; exact rfl; exact elem_of tabOk rfl; omega) | (apply p_ar; exact rfl; exact rfl; exact rfl) | (apply p_bd tabOk; exact rfl; exact rfl; exact rfl; exact ⟨rfl, rfl⟩))) | (apply o2; exact rfl; (first | (apply r_l1 0; exact shape_of tabOk rfl; exact rfl; exact rfl; exact rfl) | (apply r_ln 0; exact shape_of tabOk rfl; exact rfl; exact rfl; exact rfl) | (apply r_l1 1; exact shape_of tabOk rfl; exact rfl; exact rfl; exact rfl) | (apply r_ln 1; exact shape_of tabOk rfl; exact rfl; exact rfl; exact rfl) | (apply r_l1 2; exact shape_of tabOk rfl; exact rfl; exact rfl; exact rfl) | (apply r_ln 2; exact shape_of tabOk rfl; exact rfl; exact rfl; exact rfl) | (apply r_l1 3; exact shape_of tabOk rfl; exact rfl; exact rfl; exact rfl) | (apply r_ln 3; exact shape_of tabOk rfl; exact rfl; exact rfl; exact rfl))) | (apply al; exact rfl; exact zero_of tabOk rfl; intro _) | (apply bx; exact rfl; exact rfl; intro _) | (apply sw 0; exact size_of tabOk rfl; exact rfl; exact rfl; exact rfl; exact rfl; exact rfl; exact rfl; exact rfl) | (apply so 0; exact size_of tabOk rfl; exact rfl; exact rfl; exact rfl; exact rfl; exact so_le rfl; exact so_one rfl) | (apply sw 1; exact size_of tabOk rfl; exact rfl; exact rfl; exact rfl; exact rfl; exact rfl; exact rfl; exact rfl) | (apply so 1; exact size_of tabOk rfl; exact rfl; exact rfl; exact rfl; exact rfl; exact so_le rfl; exact so_one rfl) | (apply sw 2; exact size_of tabOk rfl; exact rfl; exact rfl; exact rfl; exact rfl; exact rfl; exact rfl; exact rfl) | (apply so 2; exact size_of tabOk rfl; exact rfl; exact rfl; exact rfl; exact rfl; exact so_le rfl; exact so_one rfl) | (apply sw 3; exact size_of tabOk rfl; exact rfl; exact rfl; exact rfl; exact rfl; exact rfl; exact rfl; exact rfl) | (apply so 3; exact size_of tabOk rfl; exact rfl; exact rfl; exact rfl; exact rfl; exact so_le rfl; exact so_one rfl) | (apply rr1; exact rfl; exact rfl) | (apply rr2; exact rfl; exact rfl; exact rfl) | (apply rr3; exact rfl; exact rfl; exact rfl; exact rfl))
    refine rcm (ts := [4]) (Or.inr ⟨m, 0, rfl, rfl, rfl⟩) rfl rfl rfl (fun w hst => ⟨_, [], rfl, hst.sub (List.nil_sublist _), ?_⟩)
    show Go.Value.bool _ = .bool _
    unfold matchL
    congr 1
    exact decide_eq_decide.2 (by omega)
end Go.Fl
