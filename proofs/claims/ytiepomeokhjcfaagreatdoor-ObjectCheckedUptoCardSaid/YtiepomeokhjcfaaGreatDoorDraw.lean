/-
  A region whose order is open: where all that it does but the last stores is settled beforehand (what is reckoned, what is read, what a call answers), every order comes to the same. No condition.
-/
import Derived.Test.YtiepomeokhjcfaaGreatDoorRules
namespace Go.Fl
open Go.RowKit

/-! ### which operations are ordered, by the text of the region -/
def edgesOf (o : Oper) : List Nat := (o.after.toList.filter (Region.binds .any)).map (·.on)
def befs : List Oper → List (List Nat) → List (List Nat)
  | [], acc => acc
  | o :: r, acc => befs r (acc ++ [(edgesOf o).foldl (fun l k => (k :: acc.getD k []).foldl (fun l x => bif l.contains x then l else x :: l) l) []])

def operAt (l : List Oper) (j : Nat) : Oper := l.getD j default
def flagAt (fl : List Nat) (j : Nat) : Nat := fl.getD j 2

/-- 0: it only reckons; 1: it reads, or calls what leaves all as it was; 2: it writes, or makes. -/
def flg : Op → Nat
  | .move _ | .assign _ | .pick .. | .unOp .. | .binOp .. | .extract .. | .field .. | .fieldAddr .. | .indexAddr .. | .index .. | .makeInterface .. | .makeFunc .. | .convert .. | .slice .. | .nilCheck _ => 0
  | .call { callee := .builtin .len, .. } => 0
  | .call { callee := .builtin .cap, .. } => 0
  | .load .. | .lookup .. => 1
  | .call { callee := .builtin _, .. } => 2
  | .call _ => 1
  | _ => 2

def flagsOf : List Oper → List Nat
  | [] => []
  | o :: l => flg o.op :: flagsOf l
theorem flags_len : ∀ l : List Oper, (flagsOf l).length = l.length
  | [] => rfl
  | _ :: l => congrArg Nat.succ (flags_len l)

/-- ..and all behind the first that writes, or makes. -/
def flagsT : Bool → List Oper → List Nat
  | _, [] => []
  | true, _ :: l => 2 :: flagsT true l
  | false, o :: l => match flg o.op with
    | 2 => 2 :: flagsT true l
    | f => f :: flagsT false l
theorem flagsT_len : ∀ (b : Bool) (l : List Oper), (flagsT b l).length = l.length
  | b, [] => by cases b <;> rfl
  | true, _ :: l => congrArg Nat.succ (flagsT_len true l)
  | false, o :: l => by
    unfold flagsT
    split
    · exact congrArg Nat.succ (flagsT_len true l)
    · exact congrArg Nat.succ (flagsT_len false l)

def namesOf (ops : Array Oper) (o : Oper) : List Tmp := o.dst.toList ++ o.looksAt ops

def drawOk (l : List Oper) (fl : List Nat) : Bool :=
  let ops := l.toArray
  let n := l.length
  let bf := befs l []
  let bef := fun j => bf.getD j []
  Region.noSelect ops &&
  (List.range n).all fun j =>
    let oj := operAt l j
    let ej := edgesOf oj
    ej.all (fun k => decide (k < j)) &&
    (bef j).all (fun i => ej.any fun k => i == k || (bef k).contains i) &&
    decide (flagAt fl j ≤ 2) &&
    (flagAt fl j == 2 || ej.all (fun k => flagAt fl k != 2)) &&
    (List.range j).all (fun i =>
      let oi := operAt l i
      (flagAt fl i == 2 || flagAt fl j == 2 ||
        (!(oi.dst.toList.any fun d => (namesOf ops oj).contains d) && !(oj.dst.toList.any fun d => (namesOf ops oi).contains d)) || (bef j).contains i) &&
      (!(flagAt fl i == 2 && flagAt fl j == 2) || (bef j).contains i)) &&
    (List.range n).all (fun i =>
      (!(flagAt fl i == 1 && flagAt fl j == 2) || (bef j).contains i) &&
      (!(flagAt fl i == 0 && i != j && ((decide (i < j) && flagAt fl j == 0) || flagAt fl j == 2)) || ej.contains i || (operAt l i).apart ops oj))

/-! ### what is settled -/
def DetAt (C : Cx) (ops : Array Oper) (hs : Hs) (o : Oper) (f : Nat) (v : Value) (a : Act) : Prop :=
  (f = 0 → Yields C.P ops o v a) ∧
  (Region.wanted o (yielded ops a.tmps) = false → v = undef) ∧
  (Region.wanted o (yielded ops a.tmps) = true → ∀ w, St C.W0 C.own hs w →
    (∃ w', (execOp a.eval o).run C.P w = .ok (.value v) w' ∧ St C.W0 C.own hs w') ∨
    (∃ g args w1, (execOp a.eval o).run C.P w = .ok (.enter g args) w1 ∧ Calls C.P g args w1 fun en w' => en = .returned v ∧ St C.W0 C.own hs w'))

def DetsAt (C : Cx) (ops : Array Oper) (hs : Hs) : List (Oper × Nat) → List Value → Act → Prop
  | [], [], _ => True
  | (o, f) :: l, v :: vs, a => (if f = 2 then DetsAt C ops hs l vs a else (∃ d, o.dst = some d ∧ d < C.N) ∧ DetAt C ops hs o f v a ∧ DetsAt C ops hs l vs (a.put o.dst v))
  | _, _, _ => False

/-- The temporaries behind those of these operations that are listed. -/
def puts (a : Act) (lst : Nat → Bool) : List (Oper × Nat) → List Value → Nat → Act
  | (o, f) :: l, v :: vs, k => puts (if f ≠ 2 ∧ lst k = true then a.put o.dst v else a) lst l vs (k + 1)
  | _, _, _ => a

theorem puts_put {lst : Nat → Bool} {x : Option Tmp} {v : Value} : ∀ (l : List (Oper × Nat)) (vs : List Value) (k : Nat) (a : Act),
    (∀ m o f, l[m]? = some (o, f) → f ≠ 2 → lst (k + m) = true → ∀ d, x = some d → o.dst ≠ some d) → puts (a.put x v) lst l vs k = (puts a lst l vs k).put x v := by
  intro l
  induction l with
  | nil => intro vs k a _; rfl
  | cons y l ih =>
    obtain ⟨o, f⟩ := y
    intro vs k a h
    cases vs with
    | nil => rfl
    | cons u vs =>
      unfold puts
      have h' : ∀ m o f, l[m]? = some (o, f) → f ≠ 2 → lst (k + 1 + m) = true → ∀ d, x = some d → o.dst ≠ some d :=
        fun m o f hm hf hl => h (m + 1) o f (by simpa using hm) hf (by rw [show k + (m + 1) = k + 1 + m by omega]; exact hl)
      by_cases hc : f ≠ 2 ∧ lst k = true
      · rw [if_pos hc, if_pos hc, ← ih vs (k + 1) (a.put o.dst u) h']
        congr 1
        exact Act.put_comm a v u (fun d hd => h 0 o f rfl hc.1 hc.2 d hd)
      · rw [if_neg hc, if_neg hc]; exact ih vs (k + 1) a h'

theorem puts_set {lst lst' : Nat → Bool} {oj : Oper} {fj : Nat} {vj : Value} : ∀ (l : List (Oper × Nat)) (vs : List Value) (k j : Nat) (a : Act), l[j]? = some (oj, fj) → vs[j]? = some vj → fj ≠ 2 →
    lst (k + j) = false → lst' (k + j) = true → (∀ m, m ≠ k + j → lst' m = lst m) →
    (∀ m o f, l[m]? = some (o, f) → j < m → f ≠ 2 → lst (k + m) = true → ∀ d, oj.dst = some d → o.dst ≠ some d) → puts a lst' l vs k = (puts a lst l vs k).put oj.dst vj := by
  intro l
  induction l with
  | nil => intro vs k j a h; simp at h
  | cons y l ih =>
    obtain ⟨o, f⟩ := y
    intro vs k j a hj hv hf h0 h1 hsame hlater
    cases vs with
    | nil => simp at hv
    | cons u vs =>
      cases j with
      | zero =>
        simp only [List.getElem?_cons_zero, Option.some.injEq, Prod.mk.injEq] at hj hv
        obtain ⟨rfl, rfl⟩ := hj
        subst hv
        simp only [Nat.add_zero] at h0 h1 hsame
        unfold puts
        rw [if_pos ⟨hf, h1⟩, if_neg (by rw [h0]; simp)]
        have hl : ∀ (l : List (Oper × Nat)) (vs : List Value) (k' : Nat) (a : Act), k < k' → puts a lst' l vs k' = puts a lst l vs k' := by
          intro l
          induction l with
          | nil => intro vs k' a _; rfl
          | cons z l ihl =>
            intro vs k' a hk
            cases vs with
            | nil => rfl
            | cons u vs => unfold puts; rw [hsame k' (by omega)]; exact ihl vs (k' + 1) _ (by omega)
        rw [hl l vs (k + 1) _ (by omega)]
        refine puts_put l vs (k + 1) a ?_
        intro m o' f' hm hf' hl' d hd
        exact hlater (m + 1) o' f' (by simpa using hm) (by omega) hf' (by rw [show k + (m + 1) = k + 1 + m by omega]; exact hl') d hd
      | succ j =>
        simp only [List.getElem?_cons_succ] at hj hv
        unfold puts
        rw [hsame k (by omega)]
        refine ih vs (k + 1) j _ hj hv hf (by rw [show k + 1 + j = k + (j + 1) by omega]; exact h0) (by rw [show k + 1 + j = k + (j + 1) by omega]; exact h1)
          (fun m hm => hsame m (by omega)) ?_
        intro m o' f' hm hlt hf' hl' d hd
        exact hlater (m + 1) o' f' (by simpa using hm) (by omega) hf' (by rw [show k + (m + 1) = k + 1 + m by omega]; exact hl') d hd

theorem puts_size {lst : Nat → Bool} : ∀ (l : List (Oper × Nat)) (vs : List Value) (k : Nat) (a : Act), (puts a lst l vs k).tmps.size = a.tmps.size ∧ (puts a lst l vs k).defers = a.defers := by
  intro l
  induction l with
  | nil => intro vs k a; exact ⟨rfl, rfl⟩
  | cons y l ih =>
    obtain ⟨o, f⟩ := y
    intro vs k a
    cases vs with
    | nil => exact ⟨rfl, rfl⟩
    | cons u vs =>
      unfold puts
      split
      · obtain ⟨h1, h2⟩ := ih vs (k + 1) (a.put o.dst u)
        rw [h1, h2]
        cases o.dst <;> simp [Act.put]
      · exact ih vs (k + 1) a

theorem put_read {a a' : Act} {x : Option Tmp} {v : Value} {t : Nat} (hs : a.tmps.size = a'.tmps.size) (h : a.tmps[t]? = a'.tmps[t]?) : (a.put x v).tmps[t]? = (a'.put x v).tmps[t]? := by
  cases x with
  | none => exact h
  | some d =>
    simp only [Act.put, Array.getElem?_setIfInBounds]
    by_cases hd : d = t
    · simp [hd, hs]
    · simp [hd, h]

theorem put_size (a : Act) (x : Option Tmp) (v : Value) : (a.put x v).tmps.size = a.tmps.size := by cases x <;> simp [Act.put]
theorem put_defers (a : Act) (x : Option Tmp) (v : Value) : (a.put x v).defers = a.defers := by cases x <;> simp [Act.put]

theorem puts_read {lst lst2 : Nat → Bool} {t : Nat} : ∀ (l : List (Oper × Nat)) (vs : List Value) (k : Nat) (a a' : Act), a.tmps.size = a'.tmps.size → a.tmps[t]? = a'.tmps[t]? →
    (∀ m o f, l[m]? = some (o, f) → f ≠ 2 → o.dst = some t → lst (k + m) = lst2 (k + m)) → (puts a lst l vs k).tmps[t]? = (puts a' lst2 l vs k).tmps[t]? := by
  intro l
  induction l with
  | nil => intro vs k a a' _ h _; exact h
  | cons y l ih =>
    obtain ⟨o, f⟩ := y
    intro vs k a a' hs h hw
    cases vs with
    | nil => exact h
    | cons u vs =>
      unfold puts
      have hw' : ∀ m o f, l[m]? = some (o, f) → f ≠ 2 → o.dst = some t → lst (k + 1 + m) = lst2 (k + 1 + m) := by
        intro m o f hm hf hd
        have := hw (m + 1) o f (by simpa using hm) hf hd
        rwa [show k + (m + 1) = k + 1 + m by omega] at this
      have other : ∀ (a : Act), o.dst ≠ some t → (a.put o.dst u).tmps[t]? = a.tmps[t]? := by
        intro a hne
        cases hd : o.dst with
        | none => rfl
        | some d => simp only [Act.put]; rw [Array.getElem?_setIfInBounds_ne (fun e => hne (by rw [hd, e]))]
      by_cases hf : f = 2
      · rw [if_neg (by simp [hf]), if_neg (by simp [hf])]; exact ih vs (k + 1) a a' hs h hw'
      · by_cases hd : o.dst = some t
        · have h0 : lst k = lst2 k := hw 0 o f rfl hf hd
          by_cases hl : lst k = true
          · rw [if_pos ⟨hf, hl⟩, if_pos ⟨hf, by rw [← h0]; exact hl⟩]
            exact ih vs (k + 1) _ _ (by rw [put_size, put_size]; exact hs) (put_read hs h) hw'
          · rw [if_neg (by simp [hl]), if_neg (by simp [← h0, hl])]
            exact ih vs (k + 1) a a' hs h hw'
        · refine ih vs (k + 1) _ _ ?_ ?_ hw'
          · split <;> split <;> simp [put_size, hs]
          · split <;> split <;> simp [other _ hd, h]

theorem DetAt.congr {C : Cx} {ops : Array Oper} {hs : Hs} {o : Oper} {f : Nat} {v : Value} {a a' : Act} (hsel : ∀ cs b, o.op ≠ .select cs b)
    (h : ∀ t ∈ o.looksAt ops, a.tmps[t]? = a'.tmps[t]?) (hd : DetAt C ops hs o f v a) : DetAt C ops hs o f v a' := by
  have he : execOp a'.eval o = execOp a.eval o := by
    refine execOp_congr o hsel fun x hx => ?_
    cases x with
    | tmp t =>
      have : t ∈ o.looksAt ops := List.mem_append_left _ (List.mem_filterMap.2 ⟨.tmp t, by simpa using hx, rfl⟩)
      simp [Act.eval, h t this]
    | const v => rfl
    | global g => rfl
    | func g => rfl
  have hw : Region.wanted o (yielded ops a'.tmps) = Region.wanted o (yielded ops a.tmps) := by
    unfold Region.wanted
    cases hg : o.guard with
    | none => rfl
    | some g =>
      obtain ⟨j, want⟩ := g
      simp only
      have : yielded ops a'.tmps j = yielded ops a.tmps j := by
        unfold yielded
        cases hj : (ops[j]?).bind (·.dst) with
        | none => rfl
        | some d =>
          have : d ∈ o.looksAt ops := List.mem_append_right _ (by simp [hg, hj])
          simp [h d this]
      rw [this]
  obtain ⟨h0, h1, h2⟩ := hd
  refine ⟨fun hf => ?_, fun hn => h1 (by rw [← hw]; exact hn), fun hy => ?_⟩
  · rcases h0 hf with ⟨hy, hr⟩ | ⟨hn, hv⟩
    · exact Or.inl ⟨by rw [hw]; exact hy, fun w => by rw [he]; exact hr w⟩
    · exact Or.inr ⟨by rw [hw]; exact hn, hv⟩
  · rw [he]; exact h2 (by rw [← hw]; exact hy)

/-- What is settled of one operation, in the state that the text's order comes to it in. -/
theorem DetsAt.get {C : Cx} {ops : Array Oper} {hs : Hs} : ∀ (l : List (Oper × Nat)) (vs : List Value) (k j : Nat) (a : Act) {o : Oper} {f : Nat}, DetsAt C ops hs l vs a → l[j]? = some (o, f) → f ≠ 2 →
    ∃ v, vs[j]? = some v ∧ (∃ d, o.dst = some d ∧ d < C.N) ∧ DetAt C ops hs o f v (puts a (fun m => decide (m < k + j)) l vs k) := by
  intro l
  induction l with
  | nil => intro vs k j a o f _ h; simp at h
  | cons y l ih =>
    obtain ⟨o', f'⟩ := y
    intro vs k j a o f h hj hf
    cases vs with
    | nil => exact h.elim
    | cons u vs =>
      unfold DetsAt at h
      cases j with
      | zero =>
        simp only [List.getElem?_cons_zero, Option.some.injEq, Prod.mk.injEq] at hj
        obtain ⟨rfl, rfl⟩ := hj
        rw [if_neg hf] at h
        obtain ⟨h1, h2, h3⟩ := h
        refine ⟨u, rfl, h1, ?_⟩
        have : puts a (fun m => decide (m < k + 0)) ((o', f') :: l) (u :: vs) k = a := by
          have key : ∀ (l : List (Oper × Nat)) (vs : List Value) (k' : Nat) (a : Act), k ≤ k' → puts a (fun m => decide (m < k + 0)) l vs k' = a := by
            intro l
            induction l with
            | nil => intro vs k' a _; rfl
            | cons z l ihl =>
              intro vs k' a hk
              cases vs with
              | nil => rfl
              | cons u vs => unfold puts; rw [if_neg (by simp; omega)]; exact ihl vs (k' + 1) a (by omega)
          exact key _ _ k a (Nat.le_refl _)
        rw [this]; exact h2
      | succ j =>
        simp only [List.getElem?_cons_succ] at hj
        have hk : k + 1 + j = k + (j + 1) := by omega
        by_cases hf' : f' = 2
        · rw [if_pos hf'] at h
          obtain ⟨v, h1, h2, h3⟩ := ih vs (k + 1) j a h hj hf
          refine ⟨v, by simpa using h1, h2, ?_⟩
          unfold puts
          rw [if_neg (by simp [hf'])]; rw [hk] at h3; exact h3
        · rw [if_neg hf'] at h
          obtain ⟨v, h1, h2, h3⟩ := ih vs (k + 1) j _ h.2.2 hj hf
          refine ⟨v, by simpa using h1, h2, ?_⟩
          unfold puts
          rw [if_pos ⟨hf', by simp⟩]; rw [hk] at h3; exact h3

/-! ### counting what is left -/
theorem countP_one {p q : Nat → Bool} {i : Nat} (hp : p i = true) (hq : q i = false) (hne : ∀ j, j ≠ i → q j = p j) :
    ∀ l : List Nat, l.Nodup → i ∈ l → l.countP q + 1 = l.countP p := by
  intro l
  induction l with
  | nil => intro _ h; cases h
  | cons x l ih =>
    intro hn hm
    rw [List.nodup_cons] at hn
    by_cases hx : x = i
    · subst hx
      have hsame : l.countP q = l.countP p := List.countP_congr fun j hj => by rw [hne j (fun e => hn.1 (e ▸ hj))]
      rw [List.countP_cons, List.countP_cons, hp, hq, hsame]; simp
    · have hm' : i ∈ l := by
        rcases List.mem_cons.1 hm with e | h
        · exact absurd e.symm hx
        · exact h
      rw [List.countP_cons, List.countP_cons, hne x hx, ← ih hn.2 hm']
      omega

def left (n : Nat) (listed : Array Bool) : Nat := (List.range n).countP fun i => !listed.getD i true
theorem left_set {n i : Nat} {listed : Array Bool} (hi : i < n) (hs : listed.size = n) (h : listed.getD i true = false) : left n (listed.setIfInBounds i true) + 1 = left n listed := by
  refine countP_one (i := i) (by simp only [h]; rfl) ?_ ?_ _ List.nodup_range (List.mem_range.2 hi)
  · simp [hs, hi]
  · intro j hj
    rw [getD_set_ne true (Ne.symm hj)]
theorem left_pos {n i : Nat} {listed : Array Bool} (hi : i < n) (h : listed.getD i true = false) : 0 < left n listed :=
  List.countP_pos_iff.2 ⟨i, List.mem_range.2 hi, by simp only [h]; rfl⟩

def lst (listed : Array Bool) (i : Nat) : Bool := listed.getD i false
theorem lst_set_self {listed : Array Bool} {i : Nat} (hi : i < listed.size) : lst (listed.setIfInBounds i true) i = true := by simp [lst, hi]
theorem lst_set_ne {listed : Array Bool} {i j : Nat} (h : j ≠ i) : lst (listed.setIfInBounds i true) j = lst listed j := getD_set_ne false (Ne.symm h)
theorem getD_true_false {listed : Array Bool} {i : Nat} (h : i < listed.size) : listed.getD i true = lst listed i := by simp [lst, h]

/-! ### the facts of the check -/
structure Facts (l : List Oper) (fl : List Nat) (bef : Nat → List Nat) : Prop where
  sel : Region.noSelect l.toArray = true
  lt : ∀ j, j < l.length → ∀ k ∈ edgesOf (operAt l j), k < j
  bf : ∀ j, j < l.length → ∀ i ∈ bef j, ∃ k ∈ edgesOf (operAt l j), i = k ∨ i ∈ bef k
  le : ∀ j, j < l.length → flagAt fl j ≤ 2
  det : ∀ j, j < l.length → flagAt fl j ≠ 2 → ∀ k ∈ edgesOf (operAt l j), flagAt fl k ≠ 2
  nm : ∀ j, j < l.length → ∀ i, i < j → flagAt fl i ≠ 2 → flagAt fl j ≠ 2 →
    (∀ d, (operAt l i).dst = some d → d ∉ namesOf l.toArray (operAt l j)) ∧ (∀ d, (operAt l j).dst = some d → d ∉ namesOf l.toArray (operAt l i)) ∨ i ∈ bef j
  ee : ∀ j, j < l.length → ∀ i, i < j → flagAt fl i = 2 → flagAt fl j = 2 → i ∈ bef j
  de : ∀ j, j < l.length → ∀ i, i < l.length → flagAt fl i = 1 → flagAt fl j = 2 → i ∈ bef j
  pu : ∀ j, j < l.length → ∀ i, i < l.length → flagAt fl i = 0 → i ≠ j → (i < j ∧ flagAt fl j = 0) ∨ flagAt fl j = 2 → i ∈ edgesOf (operAt l j) ∨ (operAt l i).apart l.toArray (operAt l j) = true

theorem facts_of {l : List Oper} {fl : List Nat} (h : drawOk l fl = true) : Facts l fl fun j => (befs l []).getD j [] := by
  unfold drawOk at h
  simp only [Bool.and_eq_true, List.all_eq_true, List.mem_range, decide_eq_true_eq, Bool.or_eq_true, beq_iff_eq, bne_iff_ne, ne_eq, List.any_eq_true,
    List.contains_iff_mem, Bool.not_eq_true', Bool.and_eq_false_iff, beq_eq_false_iff_ne, decide_eq_false_iff_not, bne_eq_false_iff_eq, Bool.or_eq_false_iff] at h
  obtain ⟨hsel, h⟩ := h
  refine ⟨hsel, ?_, ?_, ?_, ?_, ?_, ?_, ?_, ?_⟩
  · intro j hj k hk; exact (h j hj).1.1.1.1.1 k hk
  · intro j hj i hi
    obtain ⟨k, hk, hik⟩ := (h j hj).1.1.1.1.2 i hi
    exact ⟨k, hk, hik⟩
  · intro j hj; exact (h j hj).1.1.1.2
  · intro j hj hf k hk
    rcases (h j hj).1.1.2 with h1 | h1
    · exact absurd h1 hf
    · exact h1 k hk
  · intro j hj i hij hfi hfj
    rcases ((h j hj).1.2 i hij).1 with ((h1 | h1) | h1) | h1
    · exact absurd h1 hfi
    · exact absurd h1 hfj
    · refine Or.inl ⟨fun d hd hm => ?_, fun d hd hm => ?_⟩
      · have h2 := h1.1
        rw [List.any_eq_false] at h2
        exact h2 d (by simp [hd]) (by simpa using hm)
      · have h2 := h1.2
        rw [List.any_eq_false] at h2
        exact h2 d (by simp [hd]) (by simpa using hm)
    · exact Or.inr h1
  · intro j hj i hij hfi hfj
    rcases ((h j hj).1.2 i hij).2 with h1 | h1
    · rcases h1 with h1 | h1
      · exact absurd hfi h1
      · exact absurd hfj h1
    · exact h1
  · intro j hj i hi hfi hfj
    rcases ((h j hj).2 i hi).1 with h1 | h1
    · rcases h1 with h1 | h1
      · exact absurd hfi h1
      · exact absurd hfj h1
    · exact h1
  · intro j hj i hi hfi hne hc
    rcases ((h j hj).2 i hi).2 with (h1 | h1) | h1
    · exfalso
      rcases h1 with (h1 | h1) | h1
      · exact h1 hfi
      · exact hne h1
      · rcases hc with hc | hc
        · rcases h1.1 with h2 | h2
          · exact h2 hc.1
          · exact h2 hc.2
        · exact h1.2 hc
    · exact Or.inl h1
    · exact Or.inr h1

/-! ### every order -/
def effOps : List (Oper × Nat) → List Oper
  | [] => []
  | (o, f) :: l => if f = 2 then o :: effOps l else effOps l
def effIx : List (Oper × Nat) → Nat → List Nat
  | [], _ => []
  | (_, f) :: l, k => if f = 2 then k :: effIx l (k + 1) else effIx l (k + 1)
theorem effIx_spec : ∀ (l : List (Oper × Nat)) (k : Nat), (effIx l k).Pairwise (· < ·) ∧ (∀ i, i ∈ effIx l k ↔ k ≤ i ∧ ∃ o, l[i - k]? = some (o, 2)) ∧
    (effIx l k).map (fun i => ((l[i - k]?).map (·.1)).getD default) = effOps l := by
  intro l
  induction l with
  | nil => intro k; simp [effIx, effOps]
  | cons y l ih =>
    obtain ⟨o, f⟩ := y
    intro k
    obtain ⟨h1, h2, h3⟩ := ih (k + 1)
    have hmap : (effIx l (k + 1)).map (fun i => ((((o, f) :: l)[i - k]?).map (·.1)).getD default) = effOps l := by
      rw [← h3]
      refine List.map_congr_left fun i hi => ?_
      have := (h2 i).1 hi
      rw [show i - k = (i - (k + 1)) + 1 by omega, List.getElem?_cons_succ]
    have hmem : ∀ i, i ∈ effIx l (k + 1) ↔ k + 1 ≤ i ∧ ∃ o', ((o, f) :: l)[i - k]? = some (o', 2) := by
      intro i
      rw [h2 i]
      constructor
      · rintro ⟨ha, o', hb⟩
        exact ⟨ha, o', by rw [show i - k = (i - (k + 1)) + 1 by omega, List.getElem?_cons_succ]; exact hb⟩
      · rintro ⟨ha, o', hb⟩
        exact ⟨ha, o', by rw [show i - k = (i - (k + 1)) + 1 by omega, List.getElem?_cons_succ] at hb; exact hb⟩
    by_cases hf : f = 2
    · subst hf
      unfold effIx effOps
      rw [if_pos rfl, if_pos rfl]
      refine ⟨List.pairwise_cons.2 ⟨fun i hi => by have := (h2 i).1 hi; omega, h1⟩, fun i => ?_, ?_⟩
      · rw [List.mem_cons, hmem i]
        constructor
        · rintro (rfl | ⟨ha, hb⟩)
          · exact ⟨Nat.le_refl _, o, by simp⟩
          · exact ⟨by omega, hb⟩
        · rintro ⟨ha, hb⟩
          by_cases e : i = k
          · exact Or.inl e
          · exact Or.inr ⟨by omega, hb⟩
      · rw [List.map_cons, hmap]; simp
    · unfold effIx effOps
      rw [if_neg hf, if_neg hf]
      refine ⟨h1, fun i => ?_, hmap⟩
      rw [hmem i]
      constructor
      · rintro ⟨ha, hb⟩; exact ⟨by omega, hb⟩
      · rintro ⟨ha, o', hb⟩
        refine ⟨?_, o', hb⟩
        by_cases e : i = k
        · subst e; simp at hb; exact absurd hb.2 hf
        · omega

section main
variable {C : Cx} {l : List Oper} {fl : List Nat} {vs : List Value} {k : List Item} {hs : Hs} {a0 : Act} {bef : Nat → List Nat}

theorem zip_at (hlen : fl.length = l.length) {j : Nat} (hj : j < l.length) : (l.zip fl)[j]? = some (operAt l j, flagAt fl j) := by
  have h2 : j < fl.length := by omega
  simp [List.getElem?_zip_eq_some, operAt, flagAt, hj, h2]

theorem op_at {j : Nat} (hj : j < l.length) : l.toArray[j]? = some (operAt l j) := by simp [operAt, hj]

theorem at_lt {j : Nat} {o : Oper} (h : l.toArray[j]? = some o) : j < l.length ∧ o = operAt l j := by
  have h1 : l[j]? = some o := by simpa using h
  have h2 := (List.getElem?_eq_some_iff.1 h1).1
  exact ⟨h2, by simp [operAt, h1]⟩

def Closed (l : List Oper) (listed : Array Bool) : Prop := ∀ j, j < l.length → lst listed j = true → ∀ i ∈ edgesOf (operAt l j), lst listed i = true

theorem bef_listed (F : Facts l fl bef) {listed : Array Bool} (hc : Closed l listed) : ∀ n j, j < n → j < l.length → (∀ i ∈ edgesOf (operAt l j), lst listed i = true) → ∀ i ∈ bef j, lst listed i = true := by
  intro n
  induction n with
  | zero => intro j h; omega
  | succ n ih =>
    intro j hjn hj he i hi
    obtain ⟨m, hm, rfl | hb⟩ := F.bf j hj i hi
    · exact he _ hm
    · have hlt := F.lt j hj m hm
      exact ih m (by omega) (by omega) (fun x hx => hc m (by omega) (he m hm) x hx) i hb

theorem mem_edges {o : Oper} {e : Edge} (he : e ∈ o.after) (hb : Region.binds .any e = true) : e.on ∈ edgesOf o :=
  List.mem_map.2 ⟨e, List.mem_filter.2 ⟨by simpa using he, hb⟩, rfl⟩
theorem edges_mem {o : Oper} {i : Nat} (h : i ∈ edgesOf o) : ∃ e ∈ o.after, Region.binds .any e = true ∧ e.on = i := by
  obtain ⟨e, he, rfl⟩ := List.mem_map.1 h
  obtain ⟨h1, h2⟩ := List.mem_filter.1 he
  exact ⟨e, by simpa using h1, h2, rfl⟩

theorem ready_iff {listed : Array Bool} (hs : listed.size = l.length) {j : Nat} :
    j ∈ Region.ready .any l.toArray listed ↔ j < l.length ∧ lst listed j = false ∧ ∀ i ∈ edgesOf (operAt l j), lst listed i = true := by
  rw [mem_ready]
  constructor
  · rintro ⟨h1, o, ho, h2⟩
    obtain ⟨hj, rfl⟩ := at_lt ho
    refine ⟨hj, by rw [← getD_true_false (by omega)]; exact h1, fun i hi => ?_⟩
    obtain ⟨e, he, hb, rfl⟩ := edges_mem hi
    exact h2 e he hb
  · rintro ⟨hj, h1, h2⟩
    exact ⟨by rw [getD_true_false (by omega)]; exact h1, _, op_at hj, fun e he hb => h2 _ (mem_edges he hb)⟩

/-- Behind all that is settled: the others, one behind the other. -/
theorem chain (F : Facts l fl bef) (_ : fl.length = l.length) :
    ∀ (E : List Nat) (fuel : Nat) (listed : Array Bool) (a : Act) (w : World), listed.size = l.length → E.Pairwise (· < ·) → (∀ i ∈ E, i < l.length ∧ flagAt fl i = 2) →
      (∀ j, j < l.length → (lst listed j = false ↔ j ∈ E)) → Closed l listed → left l.length listed ≤ fuel →
      wpList C.P l.toArray (Qk C k) (E.map (operAt l)) a w → wpAny C.P .any l.toArray (Qk C k) fuel listed a w := by
  intro E
  induction E with
  | nil =>
    intro fuel listed a w hsz _ _ hun _ _ h
    refine wpAny_done ?_ h fuel
    rw [List.eq_nil_iff_forall_not_mem]
    intro j hj
    obtain ⟨h1, h2, _⟩ := (ready_iff hsz).1 hj
    exact absurd ((hun j h1).1 h2) (by simp)
  | cons x E ih =>
    intro fuel listed a w hsz hp hE hun hcl hfu h
    rw [List.pairwise_cons] at hp
    obtain ⟨hx, hfx⟩ := hE x (by simp)
    have hux : lst listed x = false := (hun x hx).2 (by simp)
    have hedge : ∀ i ∈ edgesOf (operAt l x), lst listed i = true := by
      intro i hi
      have hlt := F.lt x hx i hi
      cases hb : lst listed i with
      | true => rfl
      | false =>
        have := (hun i (by omega)).1 hb
        rcases List.mem_cons.1 this with e | hm
        · omega
        · have := hp.1 i hm; omega
    have hrx : x ∈ Region.ready .any l.toArray listed := (ready_iff hsz).2 ⟨hx, hux, hedge⟩
    have hpos := left_pos hx (show listed.getD x true = false by rw [getD_true_false (by omega)]; exact hux)
    cases fuel with
    | zero => omega
    | succ fuel =>
      refine ⟨fun h0 => (by rw [h0] at hrx; cases hrx), fun i hi => ?_⟩
      obtain ⟨hil, hiu, hie⟩ := (ready_iff hsz).1 hi
      have hix : i = x := by
        rcases List.mem_cons.1 ((hun i hil).1 hiu) with e | hm
        · exact e
        · exfalso
          have hlt := hp.1 i hm
          have := bef_listed F hcl (i + 1) i (by omega) hil hie x (F.ee i hil x hlt hfx (hE i (by simp [hm])).2)
          rw [hux] at this; cases this
      subst hix
      have hcl' : Closed l (listed.setIfInBounds i true) := by
        intro j hj hl m hm
        by_cases hm' : m = i
        · subst hm'; exact lst_set_self (by omega)
        · rw [lst_set_ne hm']
          by_cases hj' : j = i
          · subst hj'; exact hedge m hm
          · rw [lst_set_ne hj'] at hl; exact hcl j hj hl m hm
      have hun' : ∀ j, j < l.length → (lst (listed.setIfInBounds i true) j = false ↔ j ∈ E) := by
        intro j hj
        by_cases hj' : j = i
        · subst hj'
          rw [lst_set_self (by omega)]
          constructor
          · intro h; cases h
          · intro h; have := hp.1 j h; omega
        · rw [lst_set_ne hj', hun j hj, List.mem_cons]
          constructor
          · rintro (e | h)
            · exact absurd e hj'
            · exact h
          · exact fun h => Or.inr h
      have hfu' : left l.length (listed.setIfInBounds i true) ≤ fuel := by
        have := left_set hx hsz (show listed.getD i true = false by rw [getD_true_false (by omega)]; exact hux); omega
      have IH := fun a w => ih fuel (listed.setIfInBounds i true) a w (by simpa using hsz) hp.2 (fun j hj => hE j (by simp [hj])) hun' hcl' hfu'
      rw [List.map_cons] at h
      unfold wpList at h
      unfold wpOp
      simp only [op_at hx]
      split
      · rename_i hw
        rw [if_pos hw] at h
        exact h.imp (Oper.wp_mono IH) id
      · rename_i hw
        rw [if_neg hw] at h
        exact IH _ _ h

structure Inv (C : Cx) (l : List Oper) (fl : List Nat) (listed : Array Bool) : Prop where
  sz : listed.size = l.length
  cl : Closed l listed
  ne : ∀ j, j < l.length → flagAt fl j = 2 → lst listed j = false

theorem Inv.step {listed : Array Bool} (I : Inv C l fl listed) {i : Nat} (hi : i < l.length) (hf : flagAt fl i ≠ 2) (he : ∀ m ∈ edgesOf (operAt l i), lst listed m = true) : Inv C l fl (listed.setIfInBounds i true) := by
  refine ⟨by simpa using I.sz, ?_, ?_⟩
  · intro j hj hl m hm
    by_cases hm' : m = i
    · subst hm'; exact lst_set_self (by rw [I.sz]; exact hi)
    · rw [lst_set_ne hm']
      by_cases hj' : j = i
      · subst hj'; exact he m hm
      · rw [lst_set_ne hj'] at hl; exact I.cl j hj hl m hm
  · intro j hj h2
    by_cases hj' : j = i
    · subst hj'; exact absurd h2 hf
    · rw [lst_set_ne hj']; exact I.ne j hj h2

/-- What is settled of an operation that may come next, in the state that is there. -/
theorem det_now (F : Facts l fl bef) (hlen : fl.length = l.length) (hd : DetsAt C l.toArray hs (l.zip fl) vs a0) {listed : Array Bool} (I : Inv C l fl listed) {i : Nat} (hi : i < l.length) (hf : flagAt fl i ≠ 2)
    (hu : lst listed i = false) (he : ∀ m ∈ edgesOf (operAt l i), lst listed m = true) :
    ∃ v, vs[i]? = some v ∧ (∃ d, (operAt l i).dst = some d ∧ d < C.N) ∧ DetAt C l.toArray hs (operAt l i) (flagAt fl i) v (puts a0 (lst listed) (l.zip fl) vs 0) ∧
      puts a0 (lst (listed.setIfInBounds i true)) (l.zip fl) vs 0 = (puts a0 (lst listed) (l.zip fl) vs 0).put (operAt l i).dst v := by
  obtain ⟨v, hv, hdst, hdet⟩ := hd.get (l.zip fl) vs 0 i a0 (zip_at hlen hi) hf
  have hb := bef_listed F I.cl (i + 1) i (by omega) hi he
  have hbi : ∀ m, m < l.length → lst listed m = true → i ∉ bef m := fun m hm hl hib => by
    have := bef_listed F I.cl (m + 1) m (by omega) hm (I.cl m hm hl) i hib
    rw [hu] at this; cases this
  have zlt : ∀ {m : Nat} {o : Oper} {f : Nat}, (l.zip fl)[m]? = some (o, f) → m < l.length ∧ o = operAt l m ∧ f = flagAt fl m := by
    intro m o f h
    have h1 : m < l.length := by
      have := (List.getElem?_eq_some_iff.1 h).1
      simp at this; omega
    rw [zip_at hlen h1] at h
    cases h; exact ⟨h1, rfl, rfl⟩
  refine ⟨v, hv, hdst, ?_, ?_⟩
  · refine hdet.congr (fun cs b => Region.noSelect_spec F.sel i _ cs b (op_at hi)) fun t ht => ?_
    refine puts_read _ _ 0 a0 a0 rfl rfl ?_
    intro m o f hm hfm hdm
    obtain ⟨hml, rfl, rfl⟩ := zlt hm
    have ht' : t ∈ namesOf l.toArray (operAt l i) := List.mem_append_right _ ht
    simp only [Nat.zero_add]
    rcases Nat.lt_trichotomy m i with h | h | h
    · rw [decide_eq_true h]
      rcases F.nm i hi m h hfm hf with h1 | h1
      · exact absurd ht' (h1.1 t hdm)
      · exact (hb m h1).symm
    · subst h; rw [hu]; simp
    · rw [decide_eq_false (by omega)]
      cases hl : lst listed m with
      | false => rfl
      | true =>
        exfalso
        rcases F.nm m hml i h hf hfm with h1 | h1
        · exact h1.2 t hdm ht'
        · exact hbi m hml hl h1
  · refine puts_set (l.zip fl) vs 0 i a0 (zip_at hlen hi) hv hf (by simpa using hu) (by rw [Nat.zero_add]; exact lst_set_self (by rw [I.sz]; exact hi)) (fun m hm => lst_set_ne (by omega)) ?_
    intro m o f hm hlt hfm hl d hd' hd2
    obtain ⟨hml, rfl, rfl⟩ := zlt hm
    rw [Nat.zero_add] at hl
    rcases F.nm m hml i hlt hf hfm with h1 | h1
    · exact h1.1 d hd' (List.mem_append_left _ (by simp [hd2]))
    · exact hbi m hml hl h1

theorem settled (F : Facts l fl bef) (hlen : fl.length = l.length)
    (tail : ∀ w, St C.W0 C.own hs w → wpList C.P l.toArray (Qk C k) (effOps (l.zip fl)) (puts a0 (fun _ => true) (l.zip fl) vs 0) w)
    {fuel : Nat} {listed : Array Bool} {w : World} (hfu : left l.length listed ≤ fuel) (I : Inv C l fl listed) (hall : ∀ j, j < l.length → flagAt fl j ≠ 2 → lst listed j = true) (hst : St C.W0 C.own hs w) :
    wpAny C.P .any l.toArray (Qk C k) fuel listed (puts a0 (lst listed) (l.zip fl) vs 0) w := by
  obtain ⟨hE1, hE2, hE3⟩ := effIx_spec (l.zip fl) 0
  have hmem : ∀ i, i ∈ effIx (l.zip fl) 0 ↔ i < l.length ∧ flagAt fl i = 2 := by
    intro i
    rw [hE2 i]
    constructor
    · rintro ⟨_, o, ho⟩
      have hil : i < l.length := by
        have := (List.getElem?_eq_some_iff.1 ho).1
        simp at this; omega
      rw [Nat.sub_zero, zip_at hlen hil] at ho
      simp only [Option.some.injEq, Prod.mk.injEq] at ho
      exact ⟨hil, ho.2⟩
    · rintro ⟨hil, hf⟩
      exact ⟨Nat.zero_le _, operAt l i, by rw [Nat.sub_zero, zip_at hlen hil, hf]⟩
  have hmap : (effIx (l.zip fl) 0).map (operAt l) = effOps (l.zip fl) := by
    rw [← hE3]
    refine List.map_congr_left fun i hi => ?_
    rw [Nat.sub_zero, zip_at hlen ((hmem i).1 hi).1]; rfl
  have e : puts a0 (lst listed) (l.zip fl) vs 0 = puts a0 (fun _ => true) (l.zip fl) vs 0 := by
    have key : ∀ (z : List (Oper × Nat)) (vs : List Value) (q : Nat) (a : Act), (∀ m o f, z[m]? = some (o, f) → f ≠ 2 → lst listed (q + m) = true) → puts a (lst listed) z vs q = puts a (fun _ => true) z vs q := by
      intro z
      induction z with
      | nil => intro vs q a _; rfl
      | cons y z ihz =>
        obtain ⟨o, f⟩ := y
        intro vs q a hq
        cases vs with
        | nil => rfl
        | cons u vs =>
          unfold puts
          have hq' : ∀ m o f, z[m]? = some (o, f) → f ≠ 2 → lst listed (q + 1 + m) = true := fun m o f hm hf => by
            have := hq (m + 1) o f (by simpa using hm) hf
            rwa [show q + (m + 1) = q + 1 + m by omega] at this
          by_cases hf : f = 2
          · rw [if_neg (by simp [hf]), if_neg (by simp [hf])]; exact ihz vs (q + 1) a hq'
          · rw [if_pos ⟨hf, by simpa using hq 0 o f rfl hf⟩, if_pos ⟨hf, rfl⟩]; exact ihz vs (q + 1) _ hq'
    refine key _ vs 0 a0 fun m o f hm hf => ?_
    have hml : m < l.length := by
      have := (List.getElem?_eq_some_iff.1 hm).1
      simp at this; omega
    rw [zip_at hlen hml] at hm
    simp only [Option.some.injEq, Prod.mk.injEq] at hm
    rw [Nat.zero_add]
    exact hall m hml (by rw [hm.2]; exact hf)
  rw [e]
  refine chain F hlen (effIx (l.zip fl) 0) fuel listed _ w I.sz hE1 (fun i hi => (hmem i).1 hi) ?_ I.cl hfu (by rw [hmap]; exact tail w hst)
  intro j hj
  rw [hmem j]
  constructor
  · intro hu
    refine ⟨hj, ?_⟩
    by_cases hf : flagAt fl j = 2
    · exact hf
    · rw [hall j hj hf] at hu; cases hu
  · exact fun h => I.ne j hj h.2

/-- The least of what is left of what is settled. -/
theorem least {listed : Array Bool} (hp : ∃ j, j < l.length ∧ flagAt fl j ≠ 2 ∧ lst listed j = false) :
    ∃ j, (j < l.length ∧ flagAt fl j ≠ 2 ∧ lst listed j = false) ∧ ∀ i, i < j → ¬ (i < l.length ∧ flagAt fl i ≠ 2 ∧ lst listed i = false) := by
  obtain ⟨j, hj⟩ := hp
  induction j using Nat.strongRecOn with
  | _ j ihj =>
    by_cases hm : ∃ i, i < j ∧ (i < l.length ∧ flagAt fl i ≠ 2 ∧ lst listed i = false)
    · obtain ⟨i, hij, hi⟩ := hm; exact ihj i hij hi
    · exact ⟨j, hj, fun i hij hi => hm ⟨i, hij, hi⟩⟩

theorem phase2 (F : Facts l fl bef) (hlen : fl.length = l.length) (hd : DetsAt C l.toArray hs (l.zip fl) vs a0)
    (tail : ∀ w, St C.W0 C.own hs w → wpList C.P l.toArray (Qk C k) (effOps (l.zip fl)) (puts a0 (fun _ => true) (l.zip fl) vs 0) w) :
    ∀ (fuel : Nat) (listed : Array Bool) (w : World), left l.length listed ≤ fuel → Inv C l fl listed → (∀ j, j < l.length → flagAt fl j = 1 → lst listed j = true) → St C.W0 C.own hs w →
      wpAny C.P .any l.toArray (Qk C k) fuel listed (puts a0 (lst listed) (l.zip fl) vs 0) w := by
  intro fuel
  induction fuel with
  | zero =>
    intro listed w hfu I h1 hst
    refine settled F hlen tail hfu I (fun j hj hf => ?_) hst
    cases hb : lst listed j with
    | true => rfl
    | false =>
      have := left_pos hj (show listed.getD j true = false by rw [getD_true_false (by rw [I.sz]; exact hj)]; exact hb)
      omega
  | succ fuel ih =>
    intro listed w hfu I h1 hst
    by_cases hp : ∃ j, j < l.length ∧ flagAt fl j ≠ 2 ∧ lst listed j = false
    · obtain ⟨j, ⟨hj, hfj, huj⟩, hmin⟩ := least hp
      have hf00 : flagAt fl j = 0 := by
        have h2 := F.le j hj
        have h3 : flagAt fl j ≠ 1 := fun h => by rw [h1 j hj h] at huj; cases huj
        omega
      have hedge : ∀ i ∈ edgesOf (operAt l j), lst listed i = true := by
        intro i hi
        have hlt := F.lt j hj i hi
        have h2 := F.det j hj hfj i hi
        cases hb : lst listed i with
        | true => rfl
        | false => exact absurd ⟨by omega, h2, hb⟩ (hmin i hlt)
      obtain ⟨v, hv, hdst, hdet, hput⟩ := det_now F hlen hd I hj hfj huj hedge
      have hrdy : j ∈ Region.ready .any l.toArray listed := (ready_iff I.sz).2 ⟨hj, huj, hedge⟩
      have hpos := left_set hj I.sz (show listed.getD j true = false by rw [getD_true_false (by rw [I.sz]; exact hj)]; exact huj)
      have h1' : ∀ i, i < l.length → flagAt fl i = 1 → lst (listed.setIfInBounds j true) i = true := by
        intro i hi hfi
        by_cases e : i = j
        · subst e; exact lst_set_self (by rw [I.sz]; exact hj)
        · rw [lst_set_ne e]; exact h1 i hi hfi
      have hnext := ih (listed.setIfInBounds j true) w (by omega) (I.step hj hfj hedge) h1' hst
      rw [hput] at hnext
      refine wpAny_first (op_at hj) (Region.noSelect_spec F.sel) ?_ fuel listed _ w ?_ hrdy (hdet.1 hf00) hnext
      · intro c a w hq
        exact ⟨hq.1, by rw [← put_defers]; exact hq.2.1, hq.2.2⟩
      · intro m om hom hne hum hno
        obtain ⟨hml, rfl⟩ := at_lt hom
        have hum' : lst listed m = false := by rw [← getD_true_false (by rw [I.sz]; exact hml)]; exact hum
        have hcase : (j < m ∧ flagAt fl m = 0) ∨ flagAt fl m = 2 := by
          by_cases h2 : flagAt fl m = 2
          · exact Or.inr h2
          · refine Or.inl ⟨?_, ?_⟩
            · rcases Nat.lt_or_ge j m with h | h
              · exact h
              · exact absurd ⟨hml, h2, hum'⟩ (hmin m (by omega))
            · have h3 := F.le m hml
              have h4 : flagAt fl m ≠ 1 := fun h => by rw [h1 m hml h] at hum'; cases hum'
              omega
        rcases F.pu m hml j hj hf00 (Ne.symm hne) hcase with h2 | h2
        · obtain ⟨ed, he1, he2, he3⟩ := edges_mem h2
          exact absurd he3 (hno ed he1 he2)
        · exact h2
    · refine settled F hlen tail hfu I (fun j hj hf => ?_) hst
      cases hb : lst listed j with
      | true => rfl
      | false => exact absurd ⟨j, hj, hf, hb⟩ hp

theorem phase1 (F : Facts l fl bef) (hlen : fl.length = l.length) (hd : DetsAt C l.toArray hs (l.zip fl) vs a0)
    (tail : ∀ w, St C.W0 C.own hs w → wpList C.P l.toArray (Qk C k) (effOps (l.zip fl)) (puts a0 (fun _ => true) (l.zip fl) vs 0) w) :
    ∀ (fuel : Nat) (listed : Array Bool) (w : World), left l.length listed ≤ fuel → Inv C l fl listed → St C.W0 C.own hs w →
      wpAny C.P .any l.toArray (Qk C k) fuel listed (puts a0 (lst listed) (l.zip fl) vs 0) w := by
  intro fuel
  induction fuel with
  | zero =>
    intro listed w hfu I hst
    refine phase2 F hlen hd tail 0 listed w hfu I (fun j hj hf => ?_) hst
    cases hb : lst listed j with
    | true => rfl
    | false =>
      have := left_pos hj (show listed.getD j true = false by rw [getD_true_false (by rw [I.sz]; exact hj)]; exact hb)
      omega
  | succ fuel ih =>
    intro listed w hfu I hst
    by_cases hp1 : ∃ p, p < l.length ∧ flagAt fl p = 1 ∧ lst listed p = false
    · obtain ⟨p, hp, hfp, hup⟩ := hp1
      obtain ⟨j, ⟨hj, hfj, huj⟩, hmin⟩ := least (l := l) (fl := fl) (listed := listed) ⟨p, hp, by omega, hup⟩
      have hedge : ∀ i ∈ edgesOf (operAt l j), lst listed i = true := by
        intro i hi
        have hlt := F.lt j hj i hi
        have h2 := F.det j hj hfj i hi
        cases hb : lst listed i with
        | true => rfl
        | false => exact absurd ⟨by omega, h2, hb⟩ (hmin i hlt)
      have hrdy : j ∈ Region.ready .any l.toArray listed := (ready_iff I.sz).2 ⟨hj, huj, hedge⟩
      refine ⟨fun h0 => (by rw [h0] at hrdy; cases hrdy), fun i hi => ?_⟩
      obtain ⟨hil, hiu, hie⟩ := (ready_iff I.sz).1 hi
      have hfi : flagAt fl i ≠ 2 := by
        intro h2
        have := bef_listed F I.cl (i + 1) i (by omega) hil hie p (F.de i hil p hp hfp h2)
        rw [hup] at this; cases this
      obtain ⟨v, hv, hdst, hdet, hput⟩ := det_now F hlen hd I hil hfi hiu hie
      have hpos := left_set hil I.sz (show listed.getD i true = false by rw [getD_true_false (by rw [I.sz]; exact hil)]; exact hiu)
      have IH := fun w hst => ih (listed.setIfInBounds i true) w (by omega) (I.step hil hfi hie) hst
      rw [hput] at IH
      unfold wpOp
      simp only [op_at hil]
      split
      · rename_i hw
        left
        rcases hdet.2.2 hw w hst with ⟨w', hr, hst'⟩ | ⟨g, args, w1, hr, hcalls⟩
        · simp only [Oper.wp, hr, Oper.upon]; exact IH w' hst'
        · simp only [Oper.wp, hr, Oper.upon]
          refine Calls.mono hcalls ?_
          rintro en w' ⟨rfl, hst'⟩
          exact IH w' hst'
      · rename_i hw
        have hv' := hdet.2.1 (by simpa using hw)
        rw [← hv']; exact IH w hst
    · refine phase2 F hlen hd tail (fuel + 1) listed w hfu I (fun j hj hf => ?_) hst
      cases hb : lst listed j with
      | true => rfl
      | false => exact absurd ⟨j, hj, hf, hb⟩ hp1
end main

/-! ### the rules of such a region -/
/-- What is settled, told by an environment; behind it the rest, one behind the other. -/
structure Drw (C : Cx) (l0 : List Oper) (fl0 : List Nat) (k : List Item) (l : List (Oper × Nat)) (e : Env) (hs : Hs) : Prop where
  go : ∀ a, a.tmps.size = C.N → a.defers = C.ms.map markOf → EnvOk e a → ∃ vs, DetsAt C l0.toArray hs l vs a ∧
    ∀ w q, St C.W0 C.own hs w → wpList C.P l0.toArray (Qk C k) (effOps (l0.zip fl0)) (puts a (fun _ => true) l vs q) w

theorem run_draw {C : Cx} {l0 : List Oper} {k : List Item} {e : Env} {hs : Hs} {id : Nat} (fl : List Nat) (hm : C.P.follows .mixedOrders = true) (hok : drawOk l0 fl = true) (hlen : fl.length = l0.length)
    (h : Drw C l0 fl k (l0.zip fl) e hs) (hrd : C.rd = none := by rfl) : Run C (.code (.region id l0.toArray true) :: k) e hs := by
  refine ⟨fun a w ok => cont_of_wp0 hrd (wp_region_any hm ?_)⟩
  obtain ⟨vs, hd, ht⟩ := h.go a ok.n ok.d ok.e
  have F := facts_of hok
  have I0 : Inv C l0 fl (Array.replicate l0.toArray.size false) := by
    have hf : ∀ j, lst (Array.replicate l0.toArray.size false) j = false := by
      intro j; unfold lst; simp [Array.getElem?_replicate]; split <;> rfl
    exact ⟨by simp, fun j _ hl => (by rw [hf] at hl; cases hl), fun j _ _ => hf j⟩
  have hleft : left l0.length (Array.replicate l0.toArray.size false) ≤ l0.toArray.size := by
    have := List.countP_le_length (l := List.range l0.length) (p := fun i => !(Array.replicate l0.toArray.size false).getD i true)
    simpa [left] using this
  have := phase1 F hlen hd (fun w hst => ht w 0 hst) l0.toArray.size _ { w with drawn := w.drawn + 1 } hleft I0 (ok.st.drew _)
  have e0 : puts a (lst (Array.replicate l0.toArray.size false)) (l0.zip fl) vs 0 = a := by
    have key : ∀ (z : List (Oper × Nat)) (vs : List Value) (q : Nat) (a : Act), puts a (lst (Array.replicate l0.toArray.size false)) z vs q = a := by
      intro z
      induction z with
      | nil => intro vs q a; rfl
      | cons y z ihz =>
        obtain ⟨o, f⟩ := y
        intro vs q a
        cases vs with
        | nil => rfl
        | cons u vs =>
          unfold puts
          have hf : lst (Array.replicate l0.toArray.size false) q = false := by unfold lst; simp [Array.getElem?_replicate]; split <;> rfl
          rw [if_neg (fun hh => by rw [hf] at hh; cases hh.2)]; exact ihz vs (q + 1) a
    exact key _ vs 0 a
  rw [e0] at this
  exact this

section drules
variable {C : Cx} {l0 : List Oper} {fl0 : List Nat} {k : List Item} {l : List (Oper × Nat)} {e : Env} {hs : Hs} {d j gd : Nat} {op : Op} {ty : TypeId} {pos : String} {af : Array Edge} {v : Value} {want : Bool} {f : Nat}

theorem Drw.sub {e' : Env} (h : Drw C l0 fl0 k l e' hs) (hs' : ∀ t v, eget e' t = some v → eget e t = some v) : Drw C l0 fl0 k l e hs :=
  ⟨fun a hn hd he => h.go a hn hd (he.sub hs')⟩

theorem d_nil (hrd : C.rd = none) (h : Ops C l0.toArray (effOps (l0.zip fl0)) k e hs) : Drw C l0 fl0 k [] e hs :=
  ⟨fun a hn hd he => ⟨[], trivial, fun w _ hst => (by have := h.go a w ⟨hn, hd, he, hst⟩; unfold wpX at this; rw [hrd] at this; exact this)⟩⟩

theorem d_eff {o : Oper} (h : Drw C l0 fl0 k l e hs) : Drw C l0 fl0 k ((o, 2) :: l) e hs := by
  refine ⟨fun a hn hd he => ?_⟩
  obtain ⟨vs, h1, h2⟩ := h.go a hn hd he
  refine ⟨undef :: vs, by unfold DetsAt; rw [if_pos rfl]; exact h1, fun w q hst => ?_⟩
  unfold puts
  rw [if_neg (by simp)]
  exact h2 w (q + 1) hst

theorem d_step {o : Oper} (hf : f ≠ 2) (hdst : o.dst = some d) (hd : Nat.blt d C.N = true)
    (hdet : ∀ a, a.tmps.size = C.N → a.defers = C.ms.map markOf → EnvOk e a → DetAt C l0.toArray hs o f v a) (h : Drw C l0 fl0 k l ((d, v) :: e) hs) : Drw C l0 fl0 k ((o, f) :: l) e hs := by
  refine ⟨fun a hn hdf he => ?_⟩
  have hlt : d < C.N := Nat.le_of_ble_eq_true hd
  obtain ⟨vs, h1, h2⟩ := h.go (a.put (some d) v) (by rw [put_size]; exact hn) (by rw [put_defers]; exact hdf) (he.put (by rw [hn]; exact hlt) v)
  refine ⟨v :: vs, ?_, fun w q hst => ?_⟩
  · unfold DetsAt
    rw [if_neg hf, hdst]
    exact ⟨⟨d, rfl, hlt⟩, hdet a hn hdf he, h1⟩
  · unfold puts
    rw [if_pos ⟨hf, rfl⟩, hdst]
    exact h2 w (q + 1) hst

theorem wanted_free (o : Oper) (hg : o.guard = none) (y : Nat → Option Bool) : Region.wanted o y = true := by simp [Region.wanted, hg]
theorem wanted_at {o : Oper} {a : Act} {was : Bool} (hg : o.guard = some (j, want)) (hj : dstAt l0 j = some gd) (he : EnvOk e a) (hb : eget e gd = some (.bool was)) :
    Region.wanted o (yielded l0.toArray a.tmps) = (was == want) := by
  have hy : yielded l0.toArray a.tmps j = some was := by
    have := dstAt_eq l0 j
    unfold yielded
    rw [this, hj]
    simp [he _ _ hb]
  simp only [Region.wanted, hg, hy]
  cases was <;> cases want <;> rfl

theorem det_pv {o : Oper} {a : Act} (hw : Region.wanted o (yielded l0.toArray a.tmps) = true) (hop : o.op = op) (hpv : PV C e op v) (he : EnvOk e a) : DetAt C l0.toArray hs o f v a :=
  ⟨fun _ => Or.inl ⟨hw, fun w => hpv.go o a w hop he⟩, fun h => (by rw [hw] at h; cases h), fun _ w hst => Or.inl ⟨w, hpv.go o a w hop he, hst⟩⟩
theorem det_rv {o : Oper} {a : Act} (hw : Region.wanted o (yielded l0.toArray a.tmps) = true) (hop : o.op = op) (hrv : RV C e hs op v) (hn : a.tmps.size = C.N) (hd : a.defers = C.ms.map markOf) (he : EnvOk e a) : DetAt C l0.toArray hs o 1 v a :=
  ⟨fun h => (by cases h), fun h => (by rw [hw] at h; cases h), fun _ w hst => Or.inl (hrv.go o a w hop ⟨hn, hd, he, hst⟩)⟩
theorem det_cv {o : Oper} {a : Act} (hw : Region.wanted o (yielded l0.toArray a.tmps) = true) (hop : o.op = op) (hcv : CV C e hs op v) (hn : a.tmps.size = C.N) (hd : a.defers = C.ms.map markOf) (he : EnvOk e a) : DetAt C l0.toArray hs o 1 v a :=
  ⟨fun h => (by cases h), fun h => (by rw [hw] at h; cases h), fun _ w hst => Or.inr (hcv.go o a w hop ⟨hn, hd, he, hst⟩)⟩

/-- It reckons. -/
theorem d1 (hf : (f == 2) = false) (hd : Nat.blt d C.N = true) (hpv : PV C e op v) (h : Drw C l0 fl0 k l ((d, v) :: e) hs) : Drw C l0 fl0 k ((⟨some d, op, ty, pos, af, none⟩, f) :: l) e hs :=
  d_step (by simpa using hf) rfl hd (fun a _ _ he => det_pv (wanted_free _ rfl _) rfl hpv he) h
theorem d1g (hf : (f == 2) = false) (hd : Nat.blt d C.N = true) (hj : dstAt l0 j = some gd) (hb : eget e gd = some (.bool want)) (hpv : PV C e op v) (h : Drw C l0 fl0 k l ((d, v) :: e) hs) :
    Drw C l0 fl0 k ((⟨some d, op, ty, pos, af, some (j, want)⟩, f) :: l) e hs :=
  d_step (by simpa using hf) rfl hd (fun a _ _ he => det_pv (by rw [wanted_at rfl hj he hb]; simp) rfl hpv he) h
/-- It is left out. -/
theorem d0g {was : Bool} (hf : (f == 2) = false) (hd : Nat.blt d C.N = true) (hj : dstAt l0 j = some gd) (hb : eget e gd = some (.bool was)) (hne : (was == want) = false) (h : Drw C l0 fl0 k l ((d, undef) :: e) hs) :
    Drw C l0 fl0 k ((⟨some d, op, ty, pos, af, some (j, want)⟩, f) :: l) e hs :=
  d_step (by simpa using hf) rfl hd (fun a _ _ he => by
    have hw : Region.wanted ⟨some d, op, ty, pos, af, some (j, want)⟩ (yielded l0.toArray a.tmps) = false := by rw [wanted_at rfl hj he hb, hne]
    exact ⟨fun _ => Or.inr ⟨hw, rfl⟩, fun _ => rfl, fun h => by rw [hw] at h; cases h⟩) h
/-- It hangs on what was left out. -/
theorem du {v : Value} (hf : (f == 2) = false) (hd : Nat.blt d C.N = true) (hj : dstAt l0 j = some gd) (hb : eget e gd = some v) (hne : notBool v = true) (h : Drw C l0 fl0 k l ((d, undef) :: e) hs) :
    Drw C l0 fl0 k ((⟨some d, op, ty, pos, af, some (j, want)⟩, f) :: l) e hs :=
  d_step (by simpa using hf) rfl hd (fun a _ _ he => by
    have hw : Region.wanted ⟨some d, op, ty, pos, af, some (j, want)⟩ (yielded l0.toArray a.tmps) = false := by
      have hy : yielded l0.toArray a.tmps j = none := by
        have := dstAt_eq l0 j
        unfold yielded
        rw [this, hj]
        simp only [Option.bind_some, he _ _ hb]
        cases v <;> simp_all [notBool]
      simp only [Region.wanted, hy]; rfl
    exact ⟨fun _ => Or.inr ⟨hw, rfl⟩, fun _ => rfl, fun h => by rw [hw] at h; cases h⟩) h
/-- It reads. -/
theorem d2 (hd : Nat.blt d C.N = true) (hrv : RV C e hs op v) (h : Drw C l0 fl0 k l ((d, v) :: e) hs) : Drw C l0 fl0 k ((⟨some d, op, ty, pos, af, none⟩, 1) :: l) e hs :=
  d_step (by simp) rfl hd (fun a hn hdf he => det_rv (wanted_free _ rfl _) rfl hrv hn hdf he) h
theorem d2g (hd : Nat.blt d C.N = true) (hj : dstAt l0 j = some gd) (hb : eget e gd = some (.bool want)) (hrv : RV C e hs op v) (h : Drw C l0 fl0 k l ((d, v) :: e) hs) :
    Drw C l0 fl0 k ((⟨some d, op, ty, pos, af, some (j, want)⟩, 1) :: l) e hs :=
  d_step (by simp) rfl hd (fun a hn hdf he => det_rv (by rw [wanted_at rfl hj he hb]; simp) rfl hrv hn hdf he) h
/-- It calls. -/
theorem d3 (hd : Nat.blt d C.N = true) (hcv : CV C e hs op v) (h : Drw C l0 fl0 k l ((d, v) :: e) hs) : Drw C l0 fl0 k ((⟨some d, op, ty, pos, af, none⟩, 1) :: l) e hs :=
  d_step (by simp) rfl hd (fun a hn hdf he => det_cv (wanted_free _ rfl _) rfl hcv hn hdf he) h
theorem d3g (hd : Nat.blt d C.N = true) (hj : dstAt l0 j = some gd) (hb : eget e gd = some (.bool want)) (hcv : CV C e hs op v) (h : Drw C l0 fl0 k l ((d, v) :: e) hs) :
    Drw C l0 fl0 k ((⟨some d, op, ty, pos, af, some (j, want)⟩, 1) :: l) e hs :=
  d_step (by simp) rfl hd (fun a hn hdf he => det_cv (by rw [wanted_at rfl hj he hb]; simp) rfl hcv hn hdf he) h
/-- What hangs on a truth that is known: it is done. -/
theorem dy (hj : dstAt l0 j = some gd) (hb : eget e gd = some (.bool want)) (h : Drw C l0 fl0 k ((⟨some d, op, ty, pos, af, none⟩, f) :: l) e hs) : Drw C l0 fl0 k ((⟨some d, op, ty, pos, af, some (j, want)⟩, f) :: l) e hs := by
  refine ⟨fun a hn hdf he => ?_⟩
  obtain ⟨vs, h1, h2⟩ := h.go a hn hdf he
  refine ⟨vs, ?_, ?_⟩
  · cases vs with
    | nil => exact h1
    | cons v vs =>
      unfold DetsAt at h1 ⊢
      by_cases hf : f = 2
      · rw [if_pos hf] at h1 ⊢; exact h1
      · rw [if_neg hf] at h1 ⊢
        obtain ⟨h3, h4, h5⟩ := h1
        refine ⟨h3, ?_, h5⟩
        have hw : Region.wanted ⟨some d, op, ty, pos, af, some (j, want)⟩ (yielded l0.toArray a.tmps) = true := by rw [wanted_at rfl hj he hb]; simp
        have hw0 : Region.wanted ⟨some d, op, ty, pos, af, none⟩ (yielded l0.toArray a.tmps) = true := wanted_free _ rfl _
        refine ⟨fun h0 => Or.inl ⟨hw, ?_⟩, fun h => (by rw [hw] at h; cases h), fun _ => h4.2.2 hw0⟩
        rcases h4.1 h0 with h6 | h6
        · exact h6.2
        · rw [hw0] at h6; cases h6.1
  · cases vs with
    | nil => exact h2
    | cons v vs => exact h2
/-- A truth that is not known yet. -/
theorem d_split {b : Bool} (hg : eget e gd = some (.bool b)) (h1 : b = true → Drw C l0 fl0 k l ((gd, .bool true) :: e) hs) (h2 : b = false → Drw C l0 fl0 k l ((gd, .bool false) :: e) hs) : Drw C l0 fl0 k l e hs := by
  have key : ∀ c, b = c → Drw C l0 fl0 k l ((gd, .bool c) :: e) hs → Drw C l0 fl0 k l e hs := by
    intro c hc h
    refine h.sub ?_
    intro t v ht
    unfold eget at ht
    cases hb : Nat.beq gd t
    · rw [hb] at ht; exact ht
    · rw [hb] at ht
      obtain rfl : gd = t := Nat.eq_of_beq_eq_true hb
      cases ht; rw [← hc]; exact hg
  cases b
  · exact key false rfl (h2 rfl)
  · exact key true rfl (h1 rfl)
/-- ..at an operation that hangs on it. -/
theorem ds {p : Prop} {dp : Decidable p} (_ : dstAt l0 j = some gd) (hg : eget e gd = some (.bool (@decide p dp)))
    (h1 : p → Drw C l0 fl0 k ((⟨some d, op, ty, pos, af, some (j, want)⟩, f) :: l) ((gd, .bool true) :: e) hs)
    (h2 : ¬ p → Drw C l0 fl0 k ((⟨some d, op, ty, pos, af, some (j, want)⟩, f) :: l) ((gd, .bool false) :: e) hs) : Drw C l0 fl0 k ((⟨some d, op, ty, pos, af, some (j, want)⟩, f) :: l) e hs :=
  d_split hg (fun h => h1 (of_decide_eq_true h)) (fun h => h2 (of_decide_eq_false h))
theorem db {b : Bool} (_ : dstAt l0 j = some gd) (hg : eget e gd = some (.bool b))
    (h1 : b = true → Drw C l0 fl0 k ((⟨some d, op, ty, pos, af, some (j, want)⟩, f) :: l) ((gd, .bool true) :: e) hs)
    (h2 : b = false → Drw C l0 fl0 k ((⟨some d, op, ty, pos, af, some (j, want)⟩, f) :: l) ((gd, .bool false) :: e) hs) : Drw C l0 fl0 k ((⟨some d, op, ty, pos, af, some (j, want)⟩, f) :: l) e hs :=
  d_split hg h1 h2
end drules
end Go.Fl
