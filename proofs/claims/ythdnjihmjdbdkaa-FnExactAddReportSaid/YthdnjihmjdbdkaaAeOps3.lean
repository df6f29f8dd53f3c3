/- The rest of the abstract evaluator's operations: structs compared and built, conversions, maps, function values. Conditions: none. -/
import Derived.Test.YthdnjihmjdbdkaaAeApp
import Derived.Laws.StructEq
import Derived.Laws.BytesString
import Derived.Lib.ConvBytes
namespace Go.Proofs.Ythdnjihmjdbdkaa.AE
open Go Go.RowKit
set_option linter.unusedVariables false
set_option linter.unusedSimpArgs false

/-! ### '==' of structs -/
def eqf (f : TypeId → Value → Value → Option Bool) (P : Program) (xs ys : Array Value) : List Field → Option Bool
  | [] => some true
  | fd :: fs =>
    if fd.name = "_" then none else
    match apart P fd.type xs fd.offset, apart P fd.type ys fd.offset with
    | some a, some b =>
      match f fd.type a b with
      | some true => eqf f P xs ys fs
      | some false => some false
      | none => none
    | _, _ => none
def eqv (P : Program) : Nat → TypeId → Value → Value → Option Bool
  | 0, _, _, _ => none
  | d + 1, t, x, y =>
    match P.underlying t, x, y with
    | some .bool, .bool a, .bool b => some (a == b)
    | some (.int _), .int k a, .int k' b => if k = k' then some (a == b) else none
    | some .string, .string a, .string b => some (a.toList == b.toList)
    | some (.struct fs), .agg xs, .agg ys => if P.stoodInHeld t then none else eqf (eqv P d) P xs ys fs.toList
    | _, _, _ => none
theorem apart_run {P : Program} {W : World} {t : TypeId} {cs : Array Value} {off : Nat} {v : Value} (h : apart P t cs off = some v) : (part t cs off).run P W = .ok v W := by
  unfold apart at h
  cases hb : isStruct P t with
  | none => simp [hb] at h
  | some b =>
    rw [hb] at h
    obtain ⟨i, hi⟩ := isStruct_info hb
    cases b with
    | true =>
      simp only at h
      split at h
      · obtain rfl := Option.some.inj h
        simp [part, run_isAgg hb, run_size hi]
      · cases h
    | false =>
      simp only at h
      simp [part, run_isAgg hb, h]
theorem eqv_run {P : Program} {W : World} : ∀ (d : Nat) (t : TypeId) (x y : Value) (b : Bool) (k : Nat), eqv P d t x y = some b → (Op.equalIn (d + k) t x y).run P W = .ok b W
  | 0, _, _, _, _, _, h => by simp [eqv] at h
  | d + 1, t, x, y, b, k, h => by
    have e : d + 1 + k = d + k + 1 := by omega
    rw [e]
    unfold eqv at h
    split at h
    · rename_i hu
      obtain rfl := Option.some.inj h
      exact run_equalIn_bool' W (d + k) t _ _ hu
    · rename_i hu
      split at h
      · rename_i hk
        subst hk
        obtain rfl := Option.some.inj h
        exact run_equalIn_int W (d + k) t _ _ _ _ hu
      · cases h
    · rename_i hu
      obtain rfl := Option.some.inj h
      exact run_equalIn_string W (d + k) t _ _ hu
    · rename_i fs xs ys hu
      split at h
      · cases h
      · rename_i hs
        have hfs : P.fieldsOf t = fs := by simp [Program.fieldsOf, hu]
        rw [run_equalIn_agg W (d + k) t xs ys (by rw [hfs]; exact hu) (by simpa using hs), hfs]
        generalize fs.toList = l at h
        induction l with
        | nil =>
          simp only [eqf, Option.some.injEq] at h
          subst h
          rfl
        | cons f l ih =>
          unfold eqf at h
          split at h
          · cases h
          · rename_i hn
            split at h
            · rename_i a c ha hc
              have h1 := apart_run (W := W) ha
              have h2 := apart_run (W := W) hc
              simp only [Op.eqFields, ne_eq, hn, not_false_eq_true, if_true, Sem.run_bind, h1, h2, Result.andThen_ok]
              split at h
              · rename_i he
                have h3 := eqv_run (W := W) d f.type a c true k he
                rw [h3]
                simp only [Result.andThen_ok, Bool.not_true, Bool.false_eq_true, if_false]
                exact ih h
              · rename_i he
                obtain rfl := Option.some.inj h
                have h3 := eqv_run (W := W) d f.type a c false k he
                rw [h3]
                simp
              · cases h
            · cases h
    · cases h
def aeq (P : Program) (op : BinOp) (t : TypeId) (x y : Value) : Option Value :=
  match op, x, y with
  | .eql, .agg _, .agg _ => if closedV x && closedV y && !(P.eqGuardType P.depth t) then (eqv P 20 t x y).map .bool else none
  | .neq, .agg _, .agg _ => if closedV x && closedV y && !(P.eqGuardType P.depth t) then (eqv P 20 t x y).map (fun b => .bool !b) else none
  | .eql, .bool a, .bool b => (match P.underlying t with | some .bool => some (.bool (a == b)) | _ => none)
  | .neq, .bool a, .bool b => (match P.underlying t with | some .bool => some (.bool !(a == b)) | _ => none)
  | _, _, _ => none
theorem aeq_sound {P : Program} {ρ : Ren} {W : World} {op : BinOp} {t : TypeId} {xo yo : Operand} {x x' y y' v : Value} (h : aeq P op t x y = some v) (hx : VR ρ x x') (hy : VR ρ y y') :
    ((do eqGuard op t xo yo x' y'; binOp op t x' y') : Sem Value).run P W = .ok v W ∧ VR ρ v v := by
  unfold aeq at h
  split at h
  · split at h
    · rename_i hc
      simp only [Bool.and_eq_true, Bool.not_eq_true'] at hc
      rw [hx.eq hc.1.1, hy.eq hc.1.2]
      obtain ⟨b, hb, rfl⟩ := Option.map_eq_some_iff.1 h
      have := eqv_run (W := W) 20 t _ _ b 9980 hb
      exact ⟨by rw [Sem.run_bind, run_eqGuard_agg W _ t xo yo _ _ hc.2, Result.andThen_ok, run_eql_struct, this]; rfl, .bool _⟩
    · cases h
  · split at h
    · rename_i hc
      simp only [Bool.and_eq_true, Bool.not_eq_true'] at hc
      rw [hx.eq hc.1.1, hy.eq hc.1.2]
      obtain ⟨b, hb, rfl⟩ := Option.map_eq_some_iff.1 h
      have := eqv_run (W := W) 20 t _ _ b 9980 hb
      exact ⟨by rw [Sem.run_bind, run_eqGuard_agg W _ t xo yo _ _ hc.2, Result.andThen_ok, run_neq_struct, this]; rfl, .bool _⟩
    · cases h
  · rename_i a b
    split at h
    · rename_i hu
      obtain rfl := Option.some.inj h
      cases hx
      cases hy
      refine ⟨?_, .bool _⟩
      have h1 : (eqGuard .eql t xo yo (.bool a) (.bool b)).run P W = .ok () W := by simp [eqGuard]
      have h2 : binOp .eql t (.bool a) (.bool b) = (do pure (.bool (← Op.equal t (.bool a) (.bool b)))) := by simp only [binOp]
      have h3 : (Op.equal t (.bool a) (.bool b)).run P W = .ok (a == b) W := run_equalIn_bool' W 9999 t a b hu
      rw [Sem.run_bind, h1, Result.andThen_ok, h2, Sem.run_bind, h3, Result.andThen_ok, Sem.run_pure]
    · cases h
  · rename_i a b
    split at h
    · rename_i hu
      obtain rfl := Option.some.inj h
      cases hx
      cases hy
      refine ⟨?_, .bool _⟩
      have h1 : (eqGuard .neq t xo yo (.bool a) (.bool b)).run P W = .ok () W := by simp [eqGuard]
      have h2 : binOp .neq t (.bool a) (.bool b) = (do pure (.bool (!(← Op.equal t (.bool a) (.bool b))))) := by simp only [binOp]
      have h3 : (Op.equal t (.bool a) (.bool b)).run P W = .ok (a == b) W := run_equalIn_bool' W 9999 t a b hu
      rw [Sem.run_bind, h1, Result.andThen_ok, h2, Sem.run_bind, h3, Result.andThen_ok, Sem.run_pure]
    · cases h
  · cases h

/-! ### conversions -/
def bstr : List Value → Option (List Int)
  | [] => some []
  | .int .u8 n :: r => (bstr r).map (n :: ·)
  | _ => none
def mkStr (ns : List Int) : ByteArray := ns.foldl (fun r n => r.push (UInt8.ofNat n.toNat)) ByteArray.empty
theorem bstr_map : ∀ {l : List Value} {ns : List Int}, bstr l = some ns → l = ns.map (Value.int .u8)
  | [], ns, h => by simp only [bstr, Option.some.injEq] at h; subst h; rfl
  | v :: r, ns, h => by
    unfold bstr at h
    split at h
    · rename_i hv; cases hv
    · rename_i n r2 hv
      injection hv with e1 e2
      subst e1; subst e2
      obtain ⟨ms, h1, rfl⟩ := Option.map_eq_some_iff.1 h
      rw [bstr_map h1]
      rfl
    · cases h
def aconv (P : Program) (p : Nat) (src dst : TypeId) (H : AH) (x : Value) : Option AR :=
  match P.underlying src, P.underlying dst, x with
  | some (.int _), some (.int k), .int _ n => some (.val (.int k (k.wrap n)) H)
  | some .string, some .string, .string s => some (.val (.string s) H)
  | some .string, some (.slice e), .string s =>
    (match P.underlying e with
     | some (.int .u8) => some (.val (.slice (some ⟨tokOf p, 0, none⟩) s.size 1) (H.upd (tokOf p) (some (.cells 1 (bcells s)))))
     | _ => none)
  | some (.slice e), some .string, .slice none 0 0 =>
    (match P.underlying e with
     | some (.int .u8) => some (.val (.string ByteArray.empty) H)
     | _ => none)
  | some (.slice e), some .string, .slice (some ⟨k, o, none⟩) n _ =>
    (match P.underlying e with
     | some (.int .u8) =>
       if n = 0 then some (.val (.string ByteArray.empty) H) else
       (match H k with
        | some (.cells _ cs) => if o + n ≤ cs.length then (bstr ((cs.drop o).take n)).map (fun ns => .val (.string (mkStr ns)) H) else none
        | _ => none)
     | _ => none)
  | _, _, _ => none
theorem aconv_sound {P : Program} {b0 p : Nat} {ρ : Ren} {H : AH} {W : World} {src dst : TypeId} {x x' : Value} {r : AR} (h : aconv P p src dst H x = some r) (hx : VR ρ x x') (hR : Rel b0 ρ H W) (hf : ∀ t, Under p t → ρ t = none) (hp : p % 2 = 1) :
    ∃ v H' u W' ρ', r = .val v H' ∧ (convert src dst x').run P W = .ok u W' ∧ Stp b0 p ρ H W ρ' H' W' ∧ VR ρ' v u := by
  unfold aconv at h
  split at h
  · rename_i k1 k kk n hu1 hu2
    obtain rfl := Option.some.inj h
    cases hx
    exact ⟨_, _, _, W, ρ, rfl, by simp [convert, run_underlying hu1, run_underlying hu2, Conv.intToInt], .refl hR, .int _ _⟩
  · rename_i s hu1 hu2
    obtain rfl := Option.some.inj h
    cases hx
    exact ⟨_, _, _, W, ρ, rfl, by simp [convert, run_underlying hu1, run_underlying hu2], .refl hR, .str _⟩
  · rename_i e s hu1 hu2
    split at h
    · rename_i hue
      obtain rfl := Option.some.inj h
      cases hx
      have hcap : s.size ≤ grownCap W s.size 0 e := grownCap_ge W s.size 0 e
      obtain ⟨arr, harr⟩ : ∃ arr, arr = Lib.bytesCells W e s := ⟨_, rfl⟩
      have hasz : arr.size = grownCap W s.size 0 e := by
        rw [harr]
        simp only [Lib.bytesCells, Array.size_append, Array.size_map, Array.size_replicate]
        show s.size + _ = _
        omega
      have hW' : (Lib.bytesWorld W e s).heap = W.heap.push (.cells arr e (arr.size, arr.size + 1)) := by
        apply Array.ext
        · rw [Lib.bytesWorld_size, Array.size_push]
        · intro i h1 h2
          have h3 : (Lib.bytesWorld W e s).heap[i]? = (W.heap.push (.cells arr e (arr.size, arr.size + 1)))[i]? := by
            rcases Nat.lt_or_ge i W.heap.size with hi | hi
            · rw [Lib.bytesWorld_at_old W e s i hi, Array.getElem?_push_lt hi, Array.getElem?_eq_getElem hi]
            · have : i = W.heap.size := by rw [Lib.bytesWorld_size] at h1; omega
              subst this
              rw [Lib.bytesWorld_at_new, ← harr]
              simp
          rw [Array.getElem?_eq_getElem h1, Array.getElem?_eq_getElem h2] at h3
          exact Option.some.inj h3
      have hst := Stp.new (es := 1) (sz := arr.size) (cs := bcells s) (arr := arr) (ty := e) (W' := Lib.bytesWorld W e s) hR hf hp rfl hW' (by rw [hasz]; simpa [bcells, byteCells_length] using hcap) (fun i hi => by
        have hi' : i < s.size := by simpa [bcells, byteCells_length] using hi
        have e1 : arr.getD i undef = (bcells s).getD i undef := by
          rw [harr]
          simp [Lib.bytesCells, bcells, byteCells, Array.getD_eq_getD_getElem?, List.getD_eq_getElem?_getD, Array.getElem?_append, hi', show i < s.data.size from hi']
        rw [e1]
        exact (LR.closed (bcells_closed s)).2 i hi) (Nat.le_refl _) (fun off ho => by simp only; omega)
      refine ⟨_, _, .slice (some ⟨W.heap.size, 0, none⟩) s.size (grownCap W s.size 0 e), Lib.bytesWorld W e s, _, rfl, ?_, hst, ?_⟩
      · exact Lib.run_convert_string_bytes W src dst e s hu1 hu2 hue
      · have := VR.sl (ρ := fun u => if u = child p 0 then some (⟨W.heap.size, 0, arr.size, 1⟩ : Slot) else ρ u) (t := child p 0) (s := ⟨W.heap.size, 0, arr.size, 1⟩) 0 s.size 1 (grownCap W s.size 0 e) (by simp) hcap (.inr (by simp [hasz])) (by simp)
        exact this
    · cases h
  · rename_i e hu1 hu2
    split at h
    · rename_i hue
      obtain rfl := Option.some.inj h
      cases hx
      exact ⟨_, _, .string .empty, W, ρ, rfl, by rw [run_convert_bytes_string W src dst e _ _ _ hu1 hue hu2]; simp [Conv.bytesToString], .refl hR, .str _⟩
    · cases h
  · rename_i e k o n m hu1 hu2
    split at h
    · rename_i hue
      split at h
      · rename_i h0
        obtain rfl := Option.some.inj h
        subst h0
        have key : ∀ (a : Addr) (c : Nat), (convert src dst (.slice (some a) 0 c)).run P W = .ok (.string ByteArray.empty) W := by
          intro a c
          rw [run_convert_bytes_string W src dst e _ _ _ hu1 hue hu2]
          have := run_bytesToString (P := P) W a 0 c [] (by simp [loadCells, loadCellsFrom])
          simpa using this
        cases hx with
        | sl => exact ⟨_, _, _, W, ρ, rfl, key _ _, .refl hR, .str _⟩
        | sle => exact ⟨_, _, _, W, ρ, rfl, key _ _, .refl hR, .str _⟩
      · rename_i h0
        split at h
        · rename_i es cs hk
          split at h
          · rename_i hle
            obtain ⟨ns, hns, rfl⟩ := Option.map_eq_some_iff.1 h
            have hm := bstr_map hns
            cases hx with
            | @sl _ q _ _ _ c hq hn hfit hmm =>
              obtain ⟨us, h6, h7, h8⟩ := tok_cells hq (hR.tok k _ hk) hle
              have hus : us = ns.map (Value.int .u8) := by
                rw [← hm]
                exact LR.eq h8 (by rw [hm]; simp [closedV, closed1])
              refine ⟨_, _, _, W, ρ, rfl, ?_, .refl hR, .str _⟩
              rw [run_convert_bytes_string W src dst e _ _ _ hu1 hue hu2]
              have h9 := h7 P
              rw [hus] at h9
              exact run_bytesToString W _ n c ns h9
            | sle => exact absurd rfl h0
          · cases h
        · cases h
    · cases h
  · cases h
end Go.Proofs.Ythdnjihmjdbdkaa.AE
