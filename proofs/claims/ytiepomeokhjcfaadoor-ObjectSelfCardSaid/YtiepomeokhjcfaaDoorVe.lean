/-
  Structs and arrays of plain cells held against each other. No condition.
-/
import Derived.Test.YtiepomeokhjcfaaDoorV
import Derived.ChangeKeysEq
namespace Go.Fl
open Go.Proofs Go.RowKit
set_option maxRecDepth 10000
set_option maxHeartbeats 1000000

def eqFs (F : TypeId → Option (List Nat)) (P : Program) (off : Nat) : List Field → Option (List Nat)
  | [] => some []
  | f :: fs => bif (f.name == "_") || !(Nat.beq f.offset off) then none else match F f.type, P.info? f.type with
    | some ks, some i => bif Nat.beq i.size ks.length then (match eqFs F P (off + ks.length) fs with
      | some r => some (ks ++ r)
      | none => none) else none
    | _, _ => none
def eqFlat (P : Program) : Nat → TypeId → Option (List Nat)
  | 0, _ => none
  | d + 1, t => match P.underlying t with
    | some .bool => some [0]
    | some (.int _) => some [1]
    | some .string => some [2]
    | some (.struct fs) => bif P.stoodInHeld t then none else eqFs (eqFlat P d) P 0 fs.toList
    | some (.array n e) => match P.underlying e, P.info? e with
      | some .bool, some i => bif Nat.beq i.size 1 && Nat.blt 0 d then some (List.replicate n 0) else none
      | some (.int _), some i => bif Nat.beq i.size 1 && Nat.blt 0 d then some (List.replicate n 1) else none
      | some .string, some i => bif Nat.beq i.size 1 && Nat.blt 0 d then some (List.replicate n 2) else none
      | _, _ => none
    | _ => none
def eqA : Nat → Go.Value → Go.Value → Option Bool
  | 0, .bool a, .bool b => some (a == b)
  | 1, .int k a, .int k' b => if k = k' then some (a == b) else none
  | 2, .string a, .string b => some (a == b)
  | _, _, _ => none
def eqCs : List Nat → List Go.Value → List Go.Value → Option Bool
  | [], [], [] => some true
  | k :: ks, x :: xs, y :: ys => match eqA k x y, eqCs ks xs ys with
    | some a, some b => some (a && b)
    | _, _ => none
  | _, _, _ => none
theorem eqCs_len : ∀ {ks : List Nat} {xs ys : List Go.Value} {r : Bool}, eqCs ks xs ys = some r → xs.length = ks.length ∧ ys.length = ks.length
  | [], [], [], _, _ => ⟨rfl, rfl⟩
  | k :: ks, x :: xs, y :: ys, r, h => by
    simp only [eqCs] at h
    split at h
    · rename_i a b h1 h2
      have := eqCs_len h2
      exact ⟨by simp [this.1], by simp [this.2]⟩
    · cases h
  | [], _ :: _, _, _, h => by simp [eqCs] at h
  | [], [], _ :: _, _, h => by simp [eqCs] at h
  | _ :: _, [], _, _, h => by simp [eqCs] at h
  | _ :: _, _ :: _, [], _, h => by simp [eqCs] at h
theorem eqCs_split : ∀ {k1 k2 : List Nat} {xs ys : List Go.Value} {r : Bool}, eqCs (k1 ++ k2) xs ys = some r →
    ∃ a b, eqCs k1 (xs.take k1.length) (ys.take k1.length) = some a ∧ eqCs k2 (xs.drop k1.length) (ys.drop k1.length) = some b ∧ r = (a && b)
  | [], k2, xs, ys, r, h => ⟨true, r, by simp [eqCs], by simpa using h, by simp⟩
  | k :: k1, k2, xs, ys, r, h => by
    cases xs with
    | nil => simp [eqCs] at h
    | cons x xs => cases ys with
      | nil => simp [eqCs] at h
      | cons y ys =>
        simp only [List.cons_append, eqCs] at h
        split at h
        · rename_i a b h1 h2
          cases h
          obtain ⟨a', b', h3, h4, rfl⟩ := eqCs_split h2
          refine ⟨a && a', b', ?_, by simpa using h4, by rw [Bool.and_assoc]⟩
          simp only [List.length_cons, List.take_succ_cons, eqCs, h1, h3]
        · cases h

def isAggB (P : Program) (t : TypeId) : Bool := match P.underlying t with
  | some (.struct _) => true
  | some (.array _ _) => true
  | _ => false
theorem run_isAggB {P : Program} {w : World} {t : TypeId} (h : (P.underlying t).isSome = true) : (isAgg t).run P w = .ok (isAggB P t) w := by
  obtain ⟨u, hu⟩ := Option.isSome_iff_exists.1 h
  unfold isAgg isAggB
  cases u <;> simp [underlying, hu]

theorem eqAtom {P : Program} {w : World} {t : TypeId} {k : Nat} {x y : Go.Value} {r : Bool} (h : eqA k x y = some r) (m : Nat)
    (ht : (k = 0 ∧ P.underlying t = some .bool) ∨ (k = 1 ∧ ∃ q, P.underlying t = some (.int q)) ∨ (k = 2 ∧ P.underlying t = some .string)) : (Op.equalIn (m + 1) t x y).run P w = .ok r w := by
  rcases ht with ⟨rfl, ht⟩ | ⟨rfl, q, ht⟩ | ⟨rfl, ht⟩
  · cases x <;> cases y <;> simp only [eqA, Option.some.injEq, reduceCtorEq] at h
    subst h; exact run_equalIn_bool' w m t _ _ ht
  · cases x <;> cases y <;> simp only [eqA, reduceCtorEq] at h
    split at h
    · rename_i hk; subst hk; cases h; exact run_equalIn_int w m t _ q _ _ ht
    · cases h
  · cases x <;> cases y <;> simp only [eqA, Option.some.injEq, reduceCtorEq] at h
    subst h; rw [beq_toListBytes]; exact run_equalIn_string w m t _ _ ht

theorem eqFlat_ok {P : Program} {w : World} : ∀ (d : Nat) (t : TypeId) (ks : List Nat), eqFlat P d t = some ks → ∀ (xs ys : List Go.Value) (r : Bool), eqCs ks xs ys = some r → ∀ m, d ≤ m →
    (isAggB P t = true → (Op.equalIn m t (.agg xs.toArray) (.agg ys.toArray)).run P w = .ok r w) ∧ (isAggB P t = false → ∃ x y, xs = [x] ∧ ys = [y] ∧ (Op.equalIn m t x y).run P w = .ok r w) := by
  intro d
  induction d with
  | zero => intro t ks h; simp [eqFlat] at h
  | succ d ih =>
    intro t ks h xs ys r hr m hm
    obtain ⟨m, rfl⟩ : ∃ m', m = m' + 1 := ⟨m - 1, by omega⟩
    have atom : ∀ k, ks = [k] → isAggB P t = false → ((k = 0 ∧ P.underlying t = some .bool) ∨ (k = 1 ∧ ∃ q, P.underlying t = some (.int q)) ∨ (k = 2 ∧ P.underlying t = some .string)) →
        (isAggB P t = true → (Op.equalIn (m + 1) t (.agg xs.toArray) (.agg ys.toArray)).run P w = .ok r w) ∧ (isAggB P t = false → ∃ x y, xs = [x] ∧ ys = [y] ∧ (Op.equalIn (m + 1) t x y).run P w = .ok r w) := by
      rintro k rfl ha ht
      refine ⟨fun h => (by rw [ha] at h; cases h), fun _ => ?_⟩
      obtain ⟨l1, l2⟩ := eqCs_len hr
      obtain ⟨x, rfl⟩ := List.length_eq_one_iff.1 l1
      obtain ⟨y, rfl⟩ := List.length_eq_one_iff.1 l2
      simp only [eqCs] at hr
      split at hr
      · rename_i a b h1 h2
        cases h2; cases hr
        rw [Bool.and_true]
        exact ⟨x, y, rfl, rfl, eqAtom h1 m ht⟩
      · cases hr
    unfold eqFlat at h
    split at h
    · rename_i hu; cases h; exact atom 0 rfl (by simp [isAggB, hu]) (Or.inl ⟨rfl, hu⟩)
    · rename_i hu; cases h; exact atom 1 rfl (by simp [isAggB, hu]) (Or.inr (Or.inl ⟨rfl, _, hu⟩))
    · rename_i hu; cases h; exact atom 2 rfl (by simp [isAggB, hu]) (Or.inr (Or.inr ⟨rfl, hu⟩))
    · rename_i fs hu
      refine ⟨fun _ => ?_, fun h => by simp [isAggB, hu] at h⟩
      cases hs : P.stoodInHeld t
      · rw [hs] at h
        simp only [cond_false] at h
        have hf : P.fieldsOf t = fs := by simp [Program.fieldsOf, hu]
        rw [run_equalIn_struct (P := P) w m t _ _ (by rw [hf]; exact hu) hs, hf]
        have key : ∀ (fl : List Field) (off : Nat) (ks : List Nat) (r : Bool), eqFs (eqFlat P d) P off fl = some ks → eqCs ks (xs.drop off) (ys.drop off) = some r → (Op.eqFields m xs.toArray ys.toArray fl).run P w = .ok r w := by
          intro fl
          induction fl with
          | nil =>
            intro off ks r h1 h2
            simp only [eqFs, Option.some.injEq] at h1
            subst h1
            have : r = true := by
              obtain ⟨l1, l2⟩ := eqCs_len h2
              rw [List.length_eq_zero_iff.1 l1, List.length_eq_zero_iff.1 l2] at h2
              simpa [eqCs] using h2.symm
            subst this
            simp [Op.eqFields]
          | cons f fl ihf =>
            intro off ks r h1 h2
            unfold eqFs at h1
            cases hc : ((f.name == "_") || !(Nat.beq f.offset off))
            · rw [hc] at h1
              simp only [Bool.or_eq_false_iff, Bool.not_eq_false'] at hc
              obtain ⟨hn, ho⟩ := hc
              have ho := Nat.eq_of_beq_eq_true ho
              simp only [cond_false] at h1
              split at h1
              · rename_i k1 i hk1 hi
                cases hsz : Nat.beq i.size k1.length
                · rw [hsz] at h1; cases h1
                · rw [hsz] at h1
                  have hsz := Nat.eq_of_beq_eq_true hsz
                  simp only [cond_true] at h1
                  split at h1
                  · rename_i k2 hk2
                    cases h1
                    obtain ⟨a, b, ha, hb, rfl⟩ := eqCs_split h2
                    rw [List.drop_drop, List.drop_drop] at hb
                    have hrest := ihf _ _ _ hk2 hb
                    have hone := ih f.type k1 hk1 _ _ _ ha m (by omega)
                    have hsome : (P.underlying f.type).isSome = true := by
                      cases d with
                      | zero => simp [eqFlat] at hk1
                      | succ d =>
                        cases hq : P.underlying f.type with
                        | none => simp [eqFlat, hq] at hk1
                        | some _ => rfl
                    have hag := run_isAggB (w := w) hsome
                    obtain ⟨l1, l2⟩ := eqCs_len ha
                    have hn' : f.name ≠ "_" := by simpa using hn
                    have hsize : (sizeOf f.type).run P w = .ok i.size w := by simp [sizeOf, typeInfo, hi]
                    have hpart : ∀ zs : List Go.Value, ((zs.drop off).take k1.length).length = k1.length → (isAggB P f.type = true → (part f.type zs.toArray f.offset).run P w = .ok (.agg ((zs.drop off).take k1.length).toArray) w) ∧
                        (isAggB P f.type = false → ∀ z, (zs.drop off).take k1.length = [z] → (part f.type zs.toArray f.offset).run P w = .ok z w) := by
                      intro zs hzl
                      constructor
                      · intro hA
                        simp only [part, Sem.run_bind, hag, Result.andThen_ok, hA, if_true, hsize, Sem.run_pure]
                        rw [ho, hsz]
                        simp [List.extract_eq_take_drop]
                      · intro hA z hz
                        have hz0 : zs[off]? = some z := by
                          have h0 : ((zs.drop off).take k1.length)[0]? = some z := by rw [hz]; rfl
                          rw [List.getElem?_take] at h0
                          split at h0
                          · rw [List.getElem?_drop] at h0; simpa using h0
                          · cases h0
                        simp only [part, Sem.run_bind, hag, Result.andThen_ok, hA]
                        rw [ho]
                        simp [hz0]
                    rw [Op.eqFields]
                    simp only [if_pos hn', Sem.run_bind]
                    cases hA : isAggB P f.type
                    · obtain ⟨x, y, hx, hy, he⟩ := hone.2 hA
                      simp only [(hpart xs l1).2 hA x hx, (hpart ys l2).2 hA y hy, he, Result.andThen_ok]
                      cases a
                      · simp
                      · simpa using hrest
                    · have he := hone.1 hA
                      simp only [(hpart xs l1).1 hA, (hpart ys l2).1 hA, he, Result.andThen_ok]
                      cases a
                      · simp
                      · simpa using hrest
                  · cases h1
              · cases h1
            · rw [hc] at h1; cases h1
        exact key fs.toList 0 ks r h (by simpa using hr)
      · rw [hs] at h; cases h
    · rename_i n e hu
      refine ⟨fun _ => ?_, fun h => by simp [isAggB, hu] at h⟩
      have key : ∀ (k : Nat) (i : TypeInfo), P.info? e = some i → i.size = 1 → ks = List.replicate n k → 0 < d → isAggB P e = false → (P.underlying e).isSome = true → ((k = 0 ∧ P.underlying e = some .bool) ∨ (k = 1 ∧ ∃ q, P.underlying e = some (.int q)) ∨ (k = 2 ∧ P.underlying e = some .string)) →
          (Op.equalIn (m + 1) t (.agg xs.toArray) (.agg ys.toArray)).run P w = .ok r w := by
        intro k i hi hsz hks hd hA hsome ht
        rw [run_equalIn_array w m xs.toArray ys.toArray hu hi]
        have hc1 : P.cellsOf e = 1 := by simp [Program.cellsOf, hi, hsz]
        rw [hc1]
        have hag := run_isAggB (w := w) hsome
        obtain ⟨m, rfl⟩ : ∃ m', m = m' + 1 := ⟨m - 1, by omega⟩
        have go : ∀ (q o : Nat) (r : Bool), eqCs (List.replicate q k) (xs.drop o) (ys.drop o) = some r → (Op.eqItems (m + 1) e 1 xs.toArray ys.toArray (List.range' o q)).run P w = .ok r w := by
          intro q
          induction q with
          | zero =>
            intro o r hr
            have : r = true := by
              obtain ⟨l1, l2⟩ := eqCs_len hr
              simp only [List.replicate_zero, List.length_nil] at l1 l2
              rw [List.length_eq_zero_iff.1 l1, List.length_eq_zero_iff.1 l2] at hr
              simpa [eqCs] using hr.symm
            subst this
            simp [Op.eqItems]
          | succ q ihq =>
            intro o r hr
            obtain ⟨l1, l2⟩ := eqCs_len hr
            rw [List.length_replicate, List.length_drop] at l1 l2
            have hx := List.drop_eq_getElem_cons (l := xs) (i := o) (by omega)
            have hy := List.drop_eq_getElem_cons (l := ys) (i := o) (by omega)
            rw [hx, hy] at hr
            simp only [List.replicate_succ, eqCs] at hr
            split at hr
            · rename_i a b h1 h2
              cases hr
              have h3 := ihq _ _ h2
              have h4 := eqAtom (P := P) (w := w) (t := e) h1 m ht
              have hp : ∀ (zs : List Go.Value) (hz : o < zs.length), (part e zs.toArray (o * 1)).run P w = .ok zs[o] w := by
                intro zs hz
                simp [part, hag, hA, hz]
              rw [List.range'_succ]
              simp only [Op.eqItems, Sem.run_bind, hp xs (by omega), hp ys (by omega), h4, Result.andThen_ok]
              cases a
              · simp
              · simpa using h3
            · cases hr
        rw [List.range_eq_range']
        exact go n 0 r (by rw [← hks]; simpa using hr)
      split at h
      · rename_i i hue hi
        cases hc : (Nat.beq i.size 1 && Nat.blt 0 d)
        · rw [hc] at h; cases h
        · rw [hc] at h; cases h
          simp only [Bool.and_eq_true] at hc
          exact key 0 i hi (Nat.eq_of_beq_eq_true hc.1) rfl (Nat.le_of_ble_eq_true hc.2) (by simp [isAggB, hue]) (by rw [hue]; rfl) (Or.inl ⟨rfl, hue⟩)
      · rename_i q i hue hi
        cases hc : (Nat.beq i.size 1 && Nat.blt 0 d)
        · rw [hc] at h; cases h
        · rw [hc] at h; cases h
          simp only [Bool.and_eq_true] at hc
          exact key 1 i hi (Nat.eq_of_beq_eq_true hc.1) rfl (Nat.le_of_ble_eq_true hc.2) (by simp [isAggB, hue]) (by rw [hue]; rfl) (Or.inr (Or.inl ⟨rfl, _, hue⟩))
      · rename_i i hue hi
        cases hc : (Nat.beq i.size 1 && Nat.blt 0 d)
        · rw [hc] at h; cases h
        · rw [hc] at h; cases h
          simp only [Bool.and_eq_true] at hc
          exact key 2 i hi (Nat.eq_of_beq_eq_true hc.1) rfl (Nat.le_of_ble_eq_true hc.2) (by simp [isAggB, hue]) (by rw [hue]; rfl) (Or.inr (Or.inr ⟨rfl, hue⟩))
      · cases h
    · cases h

/-! ..told by our own names -/
def eqVA (x y : V) : Option (Nat × PD) := match x, y with
  | .nat a, .nat b => some (1, ⟨a = b, inferInstance⟩)
  | .str a, .str b => some (2, ⟨tl a = tl b, inferInstance⟩)
  | x, y => match asB x, asB y with
    | some ⟨p, dp⟩, some ⟨q, dq⟩ => some (0, ⟨p ↔ q, @instDecidableIff _ _ dp dq⟩)
    | _, _ => match asI x, asI y with
      | some (k, i), some (k', j) => bif decide (k = k') then some (1, ⟨i = j, inferInstance⟩) else none
      | _, _ => none
def eqVs : List V → List V → Option (List Nat × PD)
  | [], [] => some ([], ⟨True, inferInstance⟩)
  | x :: xs, y :: ys => match eqVA x y, eqVs xs ys with
    | some (k, ⟨p, dp⟩), some (ks, ⟨q, dq⟩) => some (k :: ks, ⟨p ∧ q, @instDecidableAnd _ _ dp dq⟩)
    | _, _ => none
  | _, _ => none
theorem eqVA_val {x y : V} {k : Nat} {p : PD} (h : eqVA x y = some (k, p)) : eqA k x.val y.val = some (@decide p.p p.d) := by
  unfold eqVA at h
  split at h
  · cases h
    rename_i a b
    have h2 : decide ((a : Int) = (b : Int)) = decide (a = b) := decide_eq_decide.2 Int.ofNat_inj
    show (if IntKind.i64 = IntKind.i64 then some (Int.ofNat a == Int.ofNat b) else none) = _
    rw [if_pos rfl, ← h2]
    congr 1
  · cases h
    rename_i a b
    show some (a == b) = some (decide (tl a = tl b))
    rw [beq_toListBytes, ByteArray.toList_eq, ByteArray.toList_eq]
    congr 1
    rw [Bool.eq_iff_iff, beq_iff_eq, decide_eq_true_iff]; rfl
  · split at h
    · rename_i p dp q dq h1 h2
      cases h
      rw [asB_val h1, asB_val h2]
      show some (_ == _) = _
      congr 1
      by_cases hp : p <;> by_cases hq : q <;> simp [hp, hq]
    · split at h
      · rename_i k i k' j h1 h2
        cases hd : decide (k = k')
        · rw [hd] at h; cases h
        · rw [hd] at h
          obtain rfl := of_decide_eq_true hd
          cases h
          rw [asI_val h1, asI_val h2]
          show (if k = k then some (i == j) else none) = _
          rw [if_pos rfl]
          congr 1
      · cases h
theorem eqVs_val : ∀ {xs ys : List V} {ks : List Nat} {p : PD}, eqVs xs ys = some (ks, p) → eqCs ks (V.vals xs) (V.vals ys) = some (@decide p.p p.d)
  | [], [], ks, p, h => by cases h; rfl
  | x :: xs, y :: ys, ks, p, h => by
    unfold eqVs at h
    split at h
    · rename_i k p dp ks q dq h1 h2
      cases h
      simp only [V.vals, eqCs, eqVA_val h1, eqVs_val h2]
      by_cases hp : p <;> by_cases hq : q <;> simp [hp, hq]
    · cases h
  | [], _ :: _, _, _, h => by simp [eqVs] at h
  | _ :: _, [], _, _, h => by simp [eqVs] at h

section
variable {C : Cx} {e : Env}
theorem pv_eq {x y : Operand} {xs ys : List V} {ks : List Nat} {p : PD} {t t' : TypeId} (hx : ev e x = some (.agg (V.vals xs).toArray)) (hy : ev e y = some (.agg (V.vals ys).toArray)) (h : eqVs xs ys = some (ks, p))
    (hf : eqFlat C.P 8 t = some ks) (hg : C.P.eqGuardType C.P.depth t = false) (hA : isAggB C.P t = true) :
    PV C e (.binOp .eql t x y t') (.bool (@decide p.p p.d)) ∧ PV C e (.binOp .neq t x y t') (.bool (@decide (¬ p.p) (@instDecidableNot _ p.d))) := by
  have hq : ∀ w, (Op.equalIn 10000 t (.agg (V.vals xs).toArray) (.agg (V.vals ys).toArray)).run C.P w = .ok (@decide p.p p.d) w := fun w => (eqFlat_ok 8 t ks hf _ _ _ (eqVs_val h) 10000 (by decide)).1 hA
  constructor <;> refine ⟨fun o d w ho ok => ?_⟩
  · simp only [execOp, ho, ok.eval hx, ok.eval hy, Sem.run_bind, run_eqGuard_agg _ _ _ _ _ _ _ hg, Result.andThen_ok, run_eql_struct, hq, Sem.run_pure]
  · simp only [execOp, ho, ok.eval hx, ok.eval hy, Sem.run_bind, run_eqGuard_agg _ _ _ _ _ _ _ hg, Result.andThen_ok, run_neq_struct, hq, Sem.run_pure]
    simp
end
end Go.Fl
