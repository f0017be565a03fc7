/-
  What an operation that only reckons gives, told by our own names: it is so. No condition.
-/
import Derived.Test.YtiepomeokhjcfaaGreatDoorVo
namespace Go.Fl
open Go.Proofs Go.RowKit
set_option maxRecDepth 10000
set_option maxHeartbeats 4000000

section
variable {C : Cx} {e : VEnv} {tb : Tab}

theorem p_len0 {x : Operand} {t : TypeId} {a : Option Addr} {n c : Nat} {e : Env} (hx : ev e x = some (.slice a n c)) (ht : kindT C.P t = 1) : PV C e (.call { callee := .builtin .len, args := #[x], argTypes := #[t] }) (.int .i64 (Int.ofNat n)) := p_ll hx ht

theorem p_sn0 {e : Env} {x : Operand} {a : Option Addr} {n c : Nat} {t t' : TypeId} (hx : ev e x = some (.slice a n c)) (hk : kindT C.P t = 1) : PV C e (.binOp .eql t x (.const (.slice none 0 0)) t') (.bool a.isNone) ∧ PV C e (.binOp .neq t x (.const (.slice none 0 0)) t') (.bool (!a.isNone)) := by
  have h : ∀ m w, (Op.equalIn (m + 1) t (.slice a n c) (.slice none 0 0)).run C.P w = .ok a.isNone w := by
    intro m w
    unfold kindT at hk
    unfold Op.equalIn
    cases hu : C.P.underlying t with
    | none => simp [hu] at hk
    | some u => cases u <;> simp [hu] at hk; cases a <;> simp [underlying, hu]
  constructor <;> refine ⟨fun o d w ho ok => ?_⟩ <;> have hc : d.eval (.const (.slice none 0 0)) = .slice none 0 0 := rfl
  · simp only [execOp, ho, ok.eval hx, hc, eqGuard, binOp, Op.equal, Op.maxDepth]
    simp [h 9999]
  · simp only [execOp, ho, ok.eval hx, hc, eqGuard, binOp, Op.equal, Op.maxDepth]
    simp [h 9999]

theorem toList_one {α : Type} {a : Array α} {x : α} (h : a.toList = [x]) : a = #[x] := by
  cases a; simp at h; subst h; rfl

theorem p_fd {e : Env} {x : Operand} {s ft : TypeId} {f o : Nat} {vs : List Go.Value} {sh : Option Nat} {v : Go.Value} (hT : TabOk C.P tb) (hx : ev e x = some (.agg vs.toArray)) (hf : fieldL tb s f = some (o, ft)) (hs : shapeL tb ft = some sh)
    (hv : match sh with | none => (vs.drop o).head? = some v | some n => v = .agg ((vs.drop o).take n).toArray ∧ n ≤ (vs.drop o).length) : PV C e (.field s x f) v := by
  refine ⟨fun op a w ho ok => ?_⟩
  obtain ⟨fs, fl, hu, hfl, rfl, rfl⟩ := fields_at hT hf
  have hag := run_isAgg (w := w) (shape_of hT hs)
  simp only [execOp, ho, Instr.field, Sem.run_bind, run_underlying_some hu, Result.andThen_ok, hfl, ok.eval hx]
  cases sh with
  | none =>
    have hv' : vs[fl.offset]? = some v := by simpa using hv
    simp [asAgg, part, hag, hv']
  | some n =>
    obtain ⟨rfl, hle⟩ := hv
    have hsz : (sizeOf fl.type).run C.P w = .ok n w := by
      refine run_sizeOf ?_
      exact sizeT_of_shape (shape_of hT hs)
    rw [List.length_drop] at hle
    simp only [asAgg, part, Sem.run_bind, Sem.run_pure, Result.andThen_ok, hag, Option.isSome_some, if_true, hsz]
    by_cases hn : n = 0
    · subst hn
      simp
    · have h1 : ¬ (fl.offset + n > vs.length) := by omega
      simp [h1, List.extract_eq_take_drop]

theorem takeV_one {l : List V} {v : V} (h : takeV none l = some v) : (V.vals l).head? = some v.val := by
  cases l with
  | nil => simp [takeV] at h
  | cons u r => simp only [takeV, Option.some.injEq] at h; subst h; rfl
theorem takeV_some {n : Nat} {l : List V} {v : V} (h : takeV (some n) l = some v) : v.val = .agg ((V.vals l).take n).toArray ∧ n ≤ (V.vals l).length := by
  have h' : (match takeL n l with | some r => some (V.agg r) | none => none) = some v := by cases l <;> exact h
  split at h'
  · rename_i r hr
    cases h'
    obtain ⟨h1, h2⟩ := takeL_eq _ _ _ hr
    subst h1
    rw [List.length_take] at h2
    refine ⟨?_, by rw [vals_length]; omega⟩
    simp only [V.val, vals_map, List.map_take]
  · cases h'
theorem vals_drop (l : List V) (n : Nat) : V.vals (l.drop n) = (V.vals l).drop n := by simp only [vals_map, List.map_drop]

theorem opV_sound (hT : TabOk C.P tb) {op : Op} {v : V} {p : Option Prop} (h : opV C.P tb e op = some (v, p)) (hp : holds p) : PV C (rE e) op v.val := by
  unfold opV at h
  split at h
  -- move
  · split at h
    · rename_i hx; cases h; exact ⟨fun o a w ho ok => by simp [execOp, ho, ok.eval (ev_re hx)]⟩
    · cases h
  · split at h
    · rename_i hx; cases h; exact ⟨fun o a w ho ok => by simp [execOp, ho, ok.eval (ev_re hx)]⟩
    · cases h
  -- pick
  · split at h
    · rename_i hc
      split at h
      · rename_i hx; cases h; exact ⟨fun o a w ho ok => by have h1 := ok.eval (ev_re hc); simp only [V.val] at h1; simp [execOp, ho, h1, ok.eval (ev_re hx), asBool]⟩
      · cases h
    · rename_i hc
      split at h
      · rename_i hx; cases h; exact ⟨fun o a w ho ok => by have h1 := ok.eval (ev_re hc); simp only [V.val] at h1; simp [execOp, ho, h1, ok.eval (ev_re hx), asBool]⟩
      · cases h
    · rename_i q d hc
      split at h
      · rename_i u hx hy
        split at h
        · rename_i r dr hb
          cases h
          refine ⟨fun o a w ho ok => ?_⟩
          have h1 := ok.eval (ev_re hc)
          have h2 := ok.eval (ev_re hx)
          have h3 := ok.eval (ev_re hy)
          rw [asB_val hb] at h2
          simp only [V.val] at h1 h3
          by_cases hq : q <;> by_cases hr : r <;> simp [execOp, ho, h1, h2, h3, asBool, V.val, hq, hr]
        · cases h
      · rename_i u _ hx hy
        split at h
        · rename_i r dr hb
          cases h
          refine ⟨fun o a w ho ok => ?_⟩
          have h1 := ok.eval (ev_re hc)
          have h2 := ok.eval (ev_re hx)
          have h3 := ok.eval (ev_re hy)
          rw [asB_val hb] at h3
          simp only [V.val] at h1 h2
          by_cases hq : q <;> by_cases hr : r <;> simp [execOp, ho, h1, h2, h3, asBool, V.val, hq, hr]
        · cases h
      · cases h
    · cases h
  -- nilCheck
  · split at h
    · rename_i hx; cases h; exact p_nc (ev_re hx)
    · cases h
  -- not
  · split at h
    · rename_i b hx; cases h; exact ⟨fun o a w ho ok => by have h1 := ok.eval (ev_re hx); simp only [V.val] at h1; simp [execOp, ho, h1, Op.unary, V.val]⟩
    · rename_i q d hx; cases h; exact ⟨fun o a w ho ok => by have h1 := ok.eval (ev_re hx); simp only [V.val] at h1; simp [execOp, ho, h1, Op.unary, V.val]⟩
    · cases h
  -- neg
  · split at h
    · rename_i u hx
      split at h
      · rename_i k i hi
        obtain ⟨rfl, rfl⟩ : v = (arI k (-i)).1 ∧ p = (arI k (-i)).2 := by injection h with h; rw [h]; exact ⟨rfl, rfl⟩
        have h1 := ev_re hx
        rw [asI_val hi] at h1
        rw [arI_val hp]
        exact p_ng h1
      · cases h
    · cases h
  -- extract
  · split at h
    · rename_i vs hx
      split at h
      · rename_i u hu
        cases h
        refine ⟨fun o a w ho ok => ?_⟩
        have h1 := ok.eval (ev_re hx)
        have h2 := lgV_val _ _ _ hu
        rw [lget_eq] at h2
        simp only [V.val] at h1
        simp [execOp, ho, h1, Instr.extract, h2]
      · cases h
    · cases h
  -- binOp
  · rename_i op t x y t'
    split at h
    · rename_i a b hx hy; exact pv_nn (ev_re hx) (ev_re hy) h hp
    · rename_i a b hx hy; exact pv_ss (ev_re hx) (ev_re hy) h hp
    · rename_i xs ys hx hy
      split at h
      · rename_i ks q dq hq
        cases h
        obtain ⟨h1, h2, h3⟩ : eqFlat C.P 8 t = some ks ∧ C.P.eqGuardType C.P.depth t = false ∧ isAggB C.P t = true := hp
        exact (pv_eq (ev_re hx) (ev_re hy) hq h1 h2 h3).1
      · rename_i ks q dq hq
        cases h
        obtain ⟨h1, h2, h3⟩ : eqFlat C.P 8 t = some ks ∧ C.P.eqGuardType C.P.depth t = false ∧ isAggB C.P t = true := hp
        exact (pv_eq (ev_re hx) (ev_re hy) hq h1 h2 h3).2
      · cases h
    · rename_i a b _ _ _ hx hy
      split at h
      · rename_i k i k' j h1 h2
        cases hd : decide (k = k')
        · rw [hd] at h; cases h
        · rw [hd] at h
          obtain rfl := of_decide_eq_true hd
          have e1 := ev_re hx
          have e2 := ev_re hy
          rw [asI_val h1] at e1
          rw [asI_val h2] at e2
          exact pv_ii e1 e2 h hp
      · split at h
        · rename_i q r h1 h2
          split at h
          · rename_i u hu
            cases h
            have e1 := ev_re hx
            have e2 := ev_re hy
            rw [asB_val h1] at e1
            rw [asB_val h2] at e2
            exact run_eql_bool e1 e2 hp hu
          · cases h
        · cases hc : isConstNil y
          · rw [hc] at h
            cases hs : isConstNilS y
            · rw [hs] at h; cases h
            · rw [hs] at h
              simp only [cond_false, cond_true] at h
              have hy0 : y = .const (.slice none 0 0) := by
                unfold isConstNilS at hs
                split at hs
                · rfl
                · cases hs
              subst hy0
              split at h
              · rename_i r hr hk
                cases h
                have e1 := ev_re hx
                unfold isNilS at hr
                split at hr
                · cases hr
                  exact (p_sn0 e1 (kind_of hT hk)).1
                · cases hr
                  exact (p_sn0 e1 (kind_of hT hk)).1
                · cases hr
              · rename_i r hr hk
                cases h
                have e1 := ev_re hx
                unfold isNilS at hr
                split at hr
                · cases hr
                  exact (p_sn0 e1 (kind_of hT hk)).2
                · cases hr
                  exact (p_sn0 e1 (kind_of hT hk)).2
                · cases hr
              · cases h
          · rw [hc] at h
            simp only [cond_true] at h
            have hy0 : y = .const .nilIface := by
              unfold isConstNil at hc
              split at hc
              · rfl
              · cases hc
            subst hy0
            have key : ∀ {r : Bool}, isNilV a = some r → isNilI a.val = some r := by
              intro r hr
              unfold isNilV at hr
              split at hr <;> cases hr <;> rfl
            split at h
            · rename_i r hr hk; cases h; exact p_en (ev_re hx) (key hr) (kind_of hT hk)
            · rename_i r hr hk; cases h; exact p_nn (ev_re hx) (key hr) (kind_of hT hk)
            · cases h
    · cases h
  -- len
  · split at h
    · rename_i xs ts x t hxs hts
      obtain rfl := toList_one hxs
      obtain rfl := toList_one hts
      split at h
      · rename_i u hx
        split at h
        · rename_i k n k' hl hk
          cases hb : Nat.beq k k'
          · rw [hb] at h; cases h
          · rw [hb] at h
            obtain rfl := Nat.eq_of_beq_eq_true hb
            cases h
            have e1 := ev_re hx
            unfold lenV at hl
            split at hl <;> cases hl
            · exact p_ll e1 (kind_of hT hk)
            · exact p_ll e1 (kind_of hT hk)
            · exact p_ls e1 (kind_of hT hk)
        · cases h
      · cases h
    · cases h
  -- cap
  · split at h
    · rename_i xs ts x t hxs hts
      obtain rfl := toList_one hxs
      obtain rfl := toList_one hts
      split at h
      · rename_i hx hk
        cases h
        refine ⟨fun o d w ho ok => ?_⟩
        have ht := kind_of hT hk
        have e1 := ok.eval (ev_re hx)
        simp only [V.val] at e1
        unfold kindT at ht
        cases hu : C.P.underlying t with
        | none => simp [hu] at ht
        | some u =>
          cases u <;> simp [hu] at ht
          simp [execOp, ho, resolve, e1, invoke, builtin, Builtin.cap_, underlying, hu, goInt, V.val]
      · cases h
    · cases h
  -- index
  · split at h
    · rename_i s hx hk
      split at h
      · rename_i iv hi
        split at h
        · rename_i q j hj
          cases h
          obtain ⟨h1, h2⟩ : q ∧ j < s.size := hp
          obtain ⟨k, hk2⟩ := asIx_val hj h1
          have e2 := ev_re hi
          rw [hk2] at e2
          exact p_by (ev_re hx) e2 h2 (kind_of hT hk)
        · cases h
      · cases h
    · cases h
  -- slice
  · rename_i t x lo hi
    split at h
    · rename_i s hx
      split at h
      · rename_i q i r j hl hh hk
        cases h
        obtain ⟨⟨h1, h2⟩, h3, h4⟩ : (q ∧ r) ∧ i ≤ j ∧ j ≤ s.size := hp
        exact p_ss (ev_re hx) (kind_of hT hk) (by have := ixO_val hl h1; cases lo <;> exact this) (by have := ixO_val hh h2; cases hi <;> exact this) h3 h4
      · cases h
    · rename_i o k b o0 sz i0 n c hx
      cases lo with
      | none =>
        simp only at h
        split at h
        · rename_i r j et sz' hh ht
          cases hb : Nat.beq sz sz'
          · rw [hb] at h; cases h
          · rw [hb] at h
            obtain rfl := Nat.eq_of_beq_eq_true hb
            cases h
            obtain ⟨h2, h4⟩ : r ∧ j ≤ c := hp
            have := p_sl (C := C) (lo := none) (hi := hi) (i := 0) (ev_re hx) (elem_of hT ht) rfl (by have := ixO_val hh h2; cases hi <;> exact this) (Nat.zero_le _) h4
            simpa [V.val] using this
        · cases h
      | some lo =>
        simp only at h
        split at h
        · rename_i q i r j et sz' hl hh ht
          cases hb : Nat.beq sz sz'
          · rw [hb] at h; cases h
          · rw [hb] at h
            obtain rfl := Nat.eq_of_beq_eq_true hb
            have h : some (V.sl o k b o0 sz (addSt i0 i) (j - i) (c - i), some ((q ∧ r) ∧ i ≤ j ∧ j ≤ c ∧ (c ≠ i ∨ i = 0))) = some (v, p) := by cases i0 <;> exact h
            cases h
            obtain ⟨⟨h1, h2⟩, h3, h4, h5⟩ : (q ∧ r) ∧ i ≤ j ∧ j ≤ c ∧ (c ≠ i ∨ i = 0) := hp
            have := p_sl (C := C) (lo := some lo) (hi := hi) (ev_re hx) (elem_of hT ht) (by have := ixO_val hl h1; exact this) (by have := ixO_val hh h2; cases hi <;> exact this) h3 h4
            have e1 : (if c = i then o0 + stN i0 * sz else o0 + stN i0 * sz + i * sz) = o0 + stN (addSt i0 i) * sz := by
              rw [addSt_eq, Nat.add_mul, ← Nat.add_assoc]
              split
              · rename_i hci
                rcases h5 with h5 | rfl
                · exact absurd hci h5
                · simp
              · rfl
            rw [e1] at this
            exact this
        · cases h
    · cases h
  -- convert
  · split at h
    · rename_i n i hx hk hs
      cases h
      have hp : n ≤ 9223372036854775807 := hp
      have := p_cv (C := C) (ev_re hx) (int_of hT hk) (under_of hT hs)
      rw [wrap_i64 (by show _ ≤ (n : Int); omega) (by show (n : Int) ≤ _; omega)] at this
      exact this
    · rename_i u k i _ hx hk hs
      split at h
      · rename_i k' j hj
        obtain ⟨rfl, rfl⟩ : v = (arI k j).1 ∧ p = (arI k j).2 := by injection h with h; rw [h]; exact ⟨rfl, rfl⟩
        have e1 := ev_re hx
        rw [asI_val hj] at e1
        rw [arI_val hp]
        exact p_cv e1 (int_of hT hk) (under_of hT hs)
      · cases h
    · cases h
  -- makeInterface
  · split at h
    · rename_i u n hx hk
      cases hb : (Nat.beq n 5 || Nat.beq n 0)
      · rw [hb] at h
        cases h
        exact p_mi (ev_re hx) (p_mi_ok (kind_of hT hk) hb)
      · rw [hb] at h; cases h
    · cases h
  -- fieldAddr
  · split at h
    · rename_i hx hf
      cases h
      have := p_fa (C := C) (ev_re hx) (field_of hT hf)
      simpa only [V.val, Nat.add_assoc] using this
    · cases h
  -- indexAddr
  · split at h
    · rename_i o k b o0 sz i0 n c iv et sz' hx hi ht
      cases hb : Nat.beq sz sz'
      · rw [hb] at h; cases h
      · rw [hb] at h
        obtain rfl := Nat.eq_of_beq_eq_true hb
        simp only [cond_true] at h
        split at h
        · rename_i q j hj
          have h : some (V.ptr o k b o0 sz (ixSt i0 j) 0, some (q ∧ j < n)) = some (v, p) := by cases i0 <;> exact h
          cases h
          obtain ⟨h1, h2⟩ : q ∧ j < n := hp
          obtain ⟨kk, hk2⟩ := asIx_val hj h1
          have e2 := ev_re hi
          rw [hk2] at e2
          have := p_ia (C := C) (ev_re hx) e2 (elem_of hT ht) h2
          simp only [V.val, ixSt_eq, Nat.add_mul, Nat.add_zero]
          rw [← Nat.add_assoc]; exact this
        · cases h
    · cases h
  -- field
  · split at h
    · rename_i vs o ft hx hf
      split at h
      · rename_i sh hs
        split at h
        · rename_i u hu
          cases h
          refine p_fd hT (ev_re hx) hf hs ?_
          rw [← vals_drop]
          cases sh with
          | none => exact takeV_one hu
          | some n => exact takeV_some hu
        · cases h
      · cases h
    · cases h
  -- build
  · rename_i s parts
    split at h
    · rename_i ps z0 z1 z2 z3 z4 z5 z6 f0 fs hps hk hti
      cases ha : allFields tb s
      · rw [ha] at h; cases h
      · rw [ha] at h
        simp only [cond_true] at h
        split at h
        · rename_i u hu
          cases h
          exact p_bd hT ha (evPar_re hps) (buildV_val hu) ⟨hk, by rw [hti]; rfl⟩
        · cases h
    · cases h
  -- makeFunc
  · rename_i f first cap
    split at h
    · rename_i a b ha hb
      cases h
      refine ⟨fun o d w ho ok => ?_⟩
      have h1 := evAll_eval ok _ _ (evs_re ha)
      have h2 := evAll_eval ok _ _ (evs_re hb)
      have h3 : first.map d.eval = (V.vals a).toArray := by apply Array.toList_inj.1; simpa using h1
      have h4 : cap.map d.eval = (V.vals b).toArray := by apply Array.toList_inj.1; simpa using h2
      simp only [execOp, ho, Instr.makeFunc, h3, h4, Sem.run_pure, Sem.run_bind, Result.andThen_ok, V.val]
    · cases h
  · cases h
end
end Go.Fl
