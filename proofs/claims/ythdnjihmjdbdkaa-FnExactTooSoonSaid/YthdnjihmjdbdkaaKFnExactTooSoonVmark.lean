/- Walks of the program's functions over trees. Conditions: as each theorem states. -/
import Derived.Test.YthdnjihmjdbdkaaKFnExactTooSoonVa
namespace Go.Proofs.Ythdnjihmjdbdkaa.AE
open Go Go.RowKit
set_option linter.unusedVariables false
set_option linter.unusedSimpArgs false
set_option maxRecDepth 20000
set_option maxHeartbeats 2000000

noncomputable section
def mDig : Nat → Int → ByteArray → ByteArray
  | 0, _, acc => acc
  | f + 1, k, acc => if 0 < k then mDig f (k.tdiv 10) (mkStr [IntKind.u8.wrap (48 + k.tmod 10)] ++ acc) else acc
def mtxt (k : Int) : ByteArray := if k ≤ 0 then ⟨#[109, 48]⟩ else ⟨#[109]⟩ ++ mDig k.toNat k ⟨#[]⟩
theorem mDig_next {f : Nat} {k : Int} {acc : ByteArray} (hk : 0 < k) (hf : k.toNat ≤ f) : 0 ≤ k.tdiv 10 ∧ (k.tdiv 10).toNat ≤ f - 1 ∧ mDig f k acc = mDig (f - 1) (k.tdiv 10) (mkStr [IntKind.u8.wrap (48 + k.tmod 10)] ++ acc) := by
  have h1 : k.tdiv 10 = k / 10 := Int.tdiv_eq_ediv_of_nonneg (by omega)
  cases f with
  | zero => omega
  | succ f =>
    refine ⟨by omega, by omega, ?_⟩
    simp only [mDig, if_pos hk]
    rfl
theorem mDig_end {f : Nat} {k : Int} {acc : ByteArray} (hk : ¬ 0 < k) : mDig f k acc = acc := by
  cases f with
  | zero => rfl
  | succ f => simp only [mDig, if_neg hk]
theorem mkStr1 (n : Int) : (mkStr [n]).size = 1 := rfl
theorem tmod10 {k : Int} (h : 0 < k) : 0 ≤ k.tmod 10 ∧ k.tmod 10 < 10 ∧ 0 ≤ k.tdiv 10 ∧ k.tdiv 10 ≤ k := by
  rw [Int.tmod_eq_emod_of_nonneg (by omega), Int.tdiv_eq_ediv_of_nonneg (by omega)]
  omega
end
theorem W_laws_markText (n : Nat) (q : Int) (hq : q ≤ lim) : Pure (acall Try.prog (n + 1)) 93 [(tI q)] (tS (mtxt q)) := by
  refine Pure.intro (rs := [ResultVar.tmp 2]) Try.func93 rfl rfl rfl (E0 := [(0, (tI q))]) rfl ?_
  have hlim : lim = 1099511627776 := rfl
  have hmx : mx = 1048576 := rfl
  have hmax : maxLen = 9223372036854775807 := rfl
  refine sr ?_
  refine fO (OF.assign (VEv.str (⟨#[]⟩ : ByteArray))) ?_
  refine nt ?_
  refine sq ?_
  refine sr ?_
  refine mO (tI q) rfl ?_
  refine fO (B.leq (c := (decide (q ≤ 0))) (tv (tI q) rfl) (VEv.int .i64 0) rfl) ?_
  refine nt ?_
  refine VRun.cond (tv (tB (decide (q ≤ 0))) rfl) (fun hc0 => ?_) (fun hc0 => ?_)
  · have fhc0 : q ≤ 0 := of_decide_eq_true hc0
    refine sr ?_
    refine fO (OF.assign (VEv.str (⟨#[109, 48]⟩ : ByteArray))) ?_
    refine nt ?_
    refine rt ?_
    refine tr ?_
    refine vfin.eq (r' := (tS (⟨#[109, 48]⟩ : ByteArray))) ?_ (vfin.r (VRes.tmp (t := (tS (⟨#[109, 48]⟩ : ByteArray))) rfl VRes.nil) (Give.str _))
    show (tS (⟨#[109, 48]⟩ : ByteArray)) = (tS (mtxt q))
    refine congrArg T.str ?_
    exact (if_pos fhc0).symm
  have fhc0 : ¬ (q ≤ 0) := of_decide_eq_false hc0
  refine sk ?_
  refine tn ?_
  refine sr ?_
  refine fO (OF.assign (VEv.str (⟨#[]⟩ : ByteArray))) ?_
  refine nt ?_
  refine sq ?_
  refine VRun.block ?_
  refine VRun.loop (A := Int × Nat × ByteArray) (fun s_ => [(0, (tI s_.1)), (2, (tS (⟨#[]⟩ : ByteArray))), (3, (tS s_.2.2))]) (fun s_ => mkO []) 0 (fun s_ => 0 ≤ s_.1 ∧ s_.1.toNat ≤ s_.2.1 ∧ s_.2.2.size + s_.2.1 ≤ q.toNat ∧ mDig q.toNat q ⟨#[]⟩ = mDig s_.2.1 s_.1 s_.2.2) (fun s_ => s_.2.1) ((q, q.toNat, ⟨#[]⟩) : Int × Nat × ByteArray) ?_ (Wk.mk (fun k => k) ?_ ?_ ?_) ?_
  · exact ⟨by omega, Nat.le_refl _, by show 0 + q.toNat ≤ q.toNat; omega, rfl⟩
  · exact (ball_cons ⟨rfl, rfl⟩ (ball_cons ⟨rfl, rfl⟩ (ball_cons ⟨(congrArg T.str (show (⟨#[]⟩ : ByteArray) = ⟨#[]⟩ from (by first | rfl | assumption | (simp_all; done)))), rfl⟩ (ball_nil))))
  · exact (ball_nil)
  · show List.Nodup ([] : List Nat)
    decide
  rintro ⟨k, f, acc⟩ hI
  have hI' : 0 ≤ k ∧ k.toNat ≤ f ∧ acc.size + f ≤ q.toNat ∧ mDig q.toNat q ⟨#[]⟩ = mDig f k acc := hI
  clear hI
  show VRun _ _ _ [(0, (tI k)), (2, (tS (⟨#[]⟩ : ByteArray))), (3, (tS acc))] (mkO []) 0 _
  have hI1 := hI'.1
  have hI2 := hI'.2.1
  have hI3 := hI'.2.2.1
  have hI4 := hI'.2.2.2
  refine sq ?_
  refine sr ?_
  refine mO (tI k) rfl ?_
  refine fO (B.gtr (c := (decide (0 < k))) (tv (tI k) rfl) (VEv.int .i64 0) rfl) ?_
  refine nt ?_
  refine VRun.cond (tv (tB (decide (0 < k))) rfl) (fun hc1 => ?_) (fun hc1 => ?_)
  · have fhc1 : 0 < k := of_decide_eq_true hc1
    obtain ⟨m1, m2, m3, m4⟩ := tmod10 fhc1
    refine sk ?_
    refine tn ?_
    refine VRun.block ?_
    refine sr ?_
    refine mO (tI k) rfl ?_
    refine fO (B.rem (n := (k.tmod 10)) (tv (tI k) rfl) (VEv.int .i64 10) (by omega) (by first | (simp only [mkStr1]; omega) | (rw [show (⟨#[109]⟩ : ByteArray).size = 1 from rfl]; omega) | rfl | (rw [wrap64 (by omega)]; omega) | (rw [wrap64 (by omega)]; done))) ?_
    refine fO (B.add (n := (48 + (k.tmod 10))) (VEv.int .i64 48) (tv (tI (k.tmod 10)) rfl) (by first | (simp only [mkStr1]; omega) | (rw [show (⟨#[109]⟩ : ByteArray).size = 1 from rfl]; omega) | rfl | (rw [wrap64 (by omega)]; omega) | (rw [wrap64 (by omega)]; done))) ?_
    refine fO (OF.convI (tv (tI (48 + (k.tmod 10))) rfl) (k0 := .i64) Try.underlying3 Try.underlying5) ?_
    refine kO (OM.buildSlice (l := [(T.int .u8 (IntKind.u8.wrap (48 + (k.tmod 10))))]) (VEvp.cons (tv (T.int .u8 (IntKind.u8.wrap (48 + (k.tmod 10)))) rfl) VEvp.nil) rfl (by decide) (ball_cons (nofun) (ball_nil)) (ball_cons ((ball_cons (rfl) (ball_nil))) (ball_nil)) (ball_cons (rfl) (ball_nil)) Try.underlying164 zo5 (by kernel_rfl) rfl (by rw [sz5]; decide) sz5 (Nat.le_of_ble_eq_true rfl)) ?_
    refine lO (B.convBS (l := [IntKind.u8.wrap (48 + (k.tmod 10))]) (tv (T.os 1 0 0 1) rfl) rfl rfl Try.underlying164 Try.underlying5 Try.underlying9) ?_
    refine mO (tS acc) rfl ?_
    refine fO (B.sadd (tv (tS (mkStr [IntKind.u8.wrap (48 + (k.tmod 10))])) rfl) (tv (tS acc) rfl) (by first | (simp only [mkStr1]; omega) | (rw [show (⟨#[109]⟩ : ByteArray).size = 1 from rfl]; omega) | omega | (simp only [List.length_map]; omega) | (simp only [List.length_map, List.length_append, List.length_cons, List.length_nil, List.length_replicate, List.length_set, List.length_drop, List.length_take, lim] at *; omega))) ?_
    refine aO (tS ((mkStr [IntKind.u8.wrap (48 + (k.tmod 10))]) ++ acc)) rfl ?_
    refine nt ?_
    refine VRun.region ?_
    refine mO (tI k) rfl ?_
    refine fO (B.quo (n := (k.tdiv 10)) (tv (tI k) rfl) (VEv.int .i64 10) (by omega) (by first | (simp only [mkStr1]; omega) | (rw [show (⟨#[109]⟩ : ByteArray).size = 1 from rfl]; omega) | rfl | (rw [wrap64 (by omega)]; omega) | (rw [wrap64 (by omega)]; done))) ?_
    refine aO (tI (k.tdiv 10)) rfl ?_
    refine VRunO.nil ?_
    refine vinB.n ?_
    refine tn ?_
    obtain ⟨n1, n2, n3⟩ := mDig_next (acc := acc) fhc1 hI2
    refine ⟨((k.tdiv 10, f - 1, mkStr [IntKind.u8.wrap (48 + k.tmod 10)] ++ acc) : Int × Nat × ByteArray), ?_, ?_, Wk.mk (fun k => k) ?_ ?_ ?_⟩
    · exact ⟨n1, n2, by show (mkStr _ ++ acc).size + (f - 1) ≤ q.toNat; rw [ByteArray.size_append, mkStr1]; omega, hI4.trans n3⟩
    · first | omega | (simp only []; omega) | (show _ < _; omega) | (simp; omega)
    · exact (ball_cons ⟨rfl, rfl⟩ (ball_cons ⟨rfl, rfl⟩ (ball_cons ⟨(congrArg T.str (show ((mkStr [IntKind.u8.wrap (48 + (k.tmod 10))]) ++ acc) = (mkStr [IntKind.u8.wrap (48 + k.tmod 10)] ++ acc) from (by first | rfl | assumption | (simp_all; done)))), rfl⟩ (ball_nil))))
    · exact (ball_nil)
    · show List.Nodup ([] : List Nat)
      decide
  have fhc1 : ¬ (0 < k) := of_decide_eq_false hc1
  refine VRun.exit ?_
  refine vthn.e ?_
  refine vthn.e ?_
  refine vinB.e ?_
  refine tn ?_
  refine sr ?_
  refine mO (tS acc) rfl ?_
  refine fO (B.sadd (VEv.str (⟨#[109]⟩ : ByteArray)) (tv (tS acc) rfl) (by first | (simp only [mkStr1]; omega) | (rw [show (⟨#[109]⟩ : ByteArray).size = 1 from rfl]; omega) | omega | (simp only [List.length_map]; omega) | (simp only [List.length_map, List.length_append, List.length_cons, List.length_nil, List.length_replicate, List.length_set, List.length_drop, List.length_take, lim] at *; omega))) ?_
  refine aO (tS ((⟨#[109]⟩ : ByteArray) ++ acc)) rfl ?_
  refine nt ?_
  refine rt ?_
  refine vfin.eq (r' := (tS ((⟨#[109]⟩ : ByteArray) ++ acc))) ?_ (vfin.r (VRes.tmp (t := (tS ((⟨#[109]⟩ : ByteArray) ++ acc))) rfl VRes.nil) (Give.str _))
  show (tS ((⟨#[109]⟩ : ByteArray) ++ acc)) = (tS (mtxt q))
  refine congrArg T.str ?_
  unfold mtxt
  rw [if_neg fhc0, hI4, mDig_end fhc1]
noncomputable section
def mString (k : Nat) : ByteArray := mtxt ((k : Nat) : Int)
end
theorem W_laws_markStringS (n : Nat) (a : List ByteArray) (k : Nat) (hk : k + 1 * a.length ≤ lim) : Mut (acall Try.prog (n + 2)) 31 1 (a.map (eStr true)) [(tN k)] ((k + 1 * a.length : Nat) : Int) ((mkN mString 1 k a.length).map (eStr true)) := by
  refine Mut.intro (rt := 4) Try.func31 rfl rfl rfl (by kernel_rfl) (scMap (fun _ => rfl) _) (scMap (fun _ => rfl) _) (E0 := [(1, (tN k))]) rfl ?_
  have hlim : lim = 1099511627776 := rfl
  have hmx : mx = 1048576 := rfl
  have hmax : maxLen = 9223372036854775807 := rfl
  refine sr ?_
  refine fO (OF.assign (VEv.int .i64 0)) ?_
  refine nt ?_
  refine sq ?_
  refine sr ?_
  refine fO (OF.assign (VEv.int .i64 0)) ?_
  refine nt ?_
  refine VRun.block ?_
  have he1 : a = mkI mString 1 k a 0 := by first | rfl | (refine mkI_set ?_; omega) | (simp only [List.set_set]; refine mkI_set ?_; omega) | (simp; done) | omega
  refine VRun.loop (A := Nat) (fun s_ => [(0, (T.os 1 0 0 (((mkI mString 1 k a s_).map (eStr true)).length))), (1, (tN (k + 1 * s_))), (4, (tN 0)), (5, (tN s_))]) (fun s_ => mkO [(0, (Obj.rows 1 ((mkI mString 1 k a s_).map (eStr true))))]) 1 (fun s_ => s_ ≤ a.length) (fun s_ => a.length - s_) (0 : Nat) ?_ (Wk.mk (fun k => k) ?_ ?_ ?_) ?_
  · first | trivial | (simp; done) | omega | (constructor <;> simp)
  · exact (ball_cons ⟨(congrArg (fun l_ => T.os 1 0 0 (List.map (eStr true) l_).length) he1), rfl⟩ (ball_cons ⟨(congrArg (T.int .i64) (show ((k : Nat) : Int) = ((k + 1 * 0 : Nat) : Int) from (by first | rfl | omega | (simp; done) | (push_cast; omega)))), rfl⟩ (ball_cons ⟨rfl, rfl⟩ (ball_cons ⟨rfl, rfl⟩ (ball_nil)))))
  · exact (ball_cons ⟨(congrArg (fun l_ => some (Obj.rows 1 (List.map (eStr true) l_))) he1), (Nat.le_of_ble_eq_true rfl), rfl⟩ (ball_nil))
  · show List.Nodup ([0] : List Nat)
    decide
  rintro i hI
  have hI' : i ≤ a.length := hI
  clear hI
  show VRun _ _ _ [(0, (T.os 1 0 0 (((mkI mString 1 k a i).map (eStr true)).length))), (1, (tN (k + 1 * i))), (4, (tN 0)), (5, (tN i))] (mkO [(0, (Obj.rows 1 ((mkI mString 1 k a i).map (eStr true))))]) 1 _
  have hml := mkI_len (f := mString) (w := 1) (k := k) hI'
  refine sq ?_
  refine sr ?_
  refine mO (tN i) rfl ?_
  refine mO (T.os 1 0 0 (((mkI mString 1 k a i).map (eStr true)).length)) rfl ?_
  refine lO (B.lenO (m := (mkI mString 1 k a i).length) (tv (T.os 1 0 0 (((mkI mString 1 k a i).map (eStr true)).length)) rfl) Try.underlying36 (List.length_map ..)) ?_
  refine fO (B.lss (c := (decide (i < (mkI mString 1 k a i).length))) (tv (tN i) rfl) (tv (tN ((mkI mString 1 k a i).length)) rfl) (by first | omega | (simp only [List.length_set]; omega) | (exact decN (by omega)))) ?_
  refine nt ?_
  refine VRun.cond (tv (tB (decide (i < (mkI mString 1 k a i).length))) rfl) (fun hc0 => ?_) (fun hc0 => ?_)
  · have fhc0 : i < (mkI mString 1 k a i).length := of_decide_eq_true hc0
    refine sk ?_
    refine tn ?_
    refine sq ?_
    refine VRun.block ?_
    refine sr ?_
    refine mO (T.os 1 0 0 (((mkI mString 1 k a i).map (eStr true)).length)) rfl ?_
    refine mO (tN i) rfl ?_
    refine mO (tN (k + 1 * i)) rfl ?_
    refine cO (cS (vc (tv (tN (k + 1 * i)) rfl) VEvs.nil) (lp rfl (LendL.nil)) (W_laws_markText (n + 0) ((k + 1 * i : Nat) : Int) (by first | omega | (simp only [List.length_set]; omega) | assumption | omega)) rfl rfl) ?_
    obtain ⟨x1, hx1⟩ : ∃ x, (mkI mString 1 k a i)[i]? = some x := ⟨_, List.getElem?_eq_getElem (by first | omega | (simp only [List.length_set]; omega) | omega)⟩
    refine fO (B.indexAddrO (i := i) (tv (T.os 1 0 0 (((mkI mString 1 k a i).map (eStr true)).length)) rfl) (tv (tN i) rfl) rfl (by first | omega | (simp only [List.length_set]; omega) | omega | (simp only [List.length_map]; omega) | (simp only [List.length_map, List.length_append, List.length_cons, List.length_nil, List.length_replicate, List.length_set, List.length_drop, List.length_take, lim] at *; omega)) Try.underlying36 sz9 if9) ?_
    refine cO (B.storeP (us := [(tS (mtxt ((k + 1 * i : Nat) : Int)))]) (rows' := (((mkI mString 1 k a i).set i (mtxt ((k + 1 * i : Nat) : Int))).map (eStr true))) (row := (eStr true x1)) (tv (T.orp 1 0 i 0) rfl) (tv (tS (mtxt ((k + 1 * i : Nat) : Int))) rfl) nofun rfl (map_at _ hx1) rfl (Nat.le_of_ble_eq_true rfl) if9 sz9 (ball_cons rfl (ball_nil)) (by intro r hr t ht; obtain ⟨x, _, rfl⟩ := List.mem_map.1 hr; rw [flStr] at ht; exact isPl_flat (okStr.pl _ t ht)) (set_mapE rfl)) ?_
    refine nt ?_
    refine VRun.region ?_
    refine mO (tN (k + 1 * i)) rfl ?_
    refine fO (B.add (n := (((k + 1 * i + 1) : Nat) : Int)) (tv (tN (k + 1 * i)) rfl) (VEv.int .i64 1) (by first | omega | (simp only [List.length_set]; omega) | rfl | (rw [wrap64 (by omega)]; omega) | (rw [wrap64 (by omega)]; done))) ?_
    refine aO (tN (k + 1 * i + 1)) rfl ?_
    refine VRunO.nil ?_
    refine vinB.n ?_
    refine tn ?_
    refine VRun.region ?_
    refine mO (tN i) rfl ?_
    refine fO (B.add (n := (((i + 1) : Nat) : Int)) (tv (tN i) rfl) (VEv.int .i64 1) (by first | omega | (simp only [List.length_set]; omega) | rfl | (rw [wrap64 (by omega)]; omega) | (rw [wrap64 (by omega)]; done))) ?_
    refine aO (tN (i + 1)) rfl ?_
    refine VRunO.nil ?_
    refine tn ?_
    have hi1 : i + 1 ≤ a.length := by omega
    have he2 : ((mkI mString 1 k a i).set i (mtxt ((k + 1 * i : Nat) : Int))) = mkI mString 1 k a (i + 1) := by first | rfl | (refine mkI_set ?_; omega) | (simp only [List.set_set]; refine mkI_set ?_; omega) | (simp; done) | omega
    refine ⟨(i + 1 : Nat), ?_, ?_, Wk.mk (fun k => k) ?_ ?_ ?_⟩
    · first | trivial | omega | (simp; done) | exact ⟨by omega, hI'.2⟩
    · first | omega | (simp only []; omega) | (show _ < _; omega) | (simp; omega)
    · exact (ball_cons ⟨(congrArg (fun n_ => T.os 1 0 0 n_) (show ((mkI mString 1 k a i).map (eStr true)).length = ((mkI mString 1 k a (i + 1)).map (eStr true)).length from (by first | rfl | (rw [List.length_map, List.length_map, mkI_len hI', mkI_len hi1]) | (simp only [List.length_map]; omega) | (simp only [List.length_map, List.length_set, List.length_append, List.length_take, List.length_replicate, List.length_cons, List.length_nil]; omega)))), rfl⟩ (ball_cons ⟨(congrArg (T.int .i64) (show (((k + 1 * i + 1) : Nat) : Int) = ((k + 1 * (i + 1) : Nat) : Int) from (by first | rfl | omega | (simp; done) | (push_cast; omega)))), rfl⟩ (ball_cons ⟨rfl, rfl⟩ (ball_cons ⟨rfl, rfl⟩ (ball_nil)))))
    · exact (ball_cons ⟨(congrArg (fun l_ => some (Obj.rows 1 (List.map (eStr true) l_))) he2), (Nat.le_of_ble_eq_true rfl), rfl⟩ (ball_nil))
    · show List.Nodup ([0] : List Nat)
      decide
  have fhc0 : ¬ (i < (mkI mString 1 k a i).length) := of_decide_eq_false hc0
  refine VRun.exit ?_
  refine vthn.e ?_
  refine vthn.e ?_
  refine vinB.e ?_
  refine tn ?_
  refine sr ?_
  refine mO (tN (k + 1 * i)) rfl ?_
  refine aO (tN (k + 1 * i)) rfl ?_
  refine nt ?_
  refine rt ?_
  refine vmut.r (r0 := ((k + 1 * i : Nat) : Int)) (rows := ((mkI mString 1 k a i).map (eStr true))) rfl rfl rfl ?_ ?_ rfl
  · first | rfl | (push_cast; omega) | (have : i = a.length := (by omega); subst this; rfl)
  · show List.map _ (mkI mString 1 k a i) = List.map _ (mkN mString 1 k a.length)
    refine congrArg (List.map _) ?_
    exact mkI_all hI' (by omega)
theorem W_laws_heldStringS (n : Nat) (a : List ByteArray) (k : Nat) (hh : a = mkN mString 1 k a.length) (hk : k + 1 * a.length ≤ lim) : Pure (acall Try.prog (n + 2)) 32 [(rd 1 eStr a), (tN k)] (tN (k + 1 * a.length)) := by
  refine Pure.intro (rs := [ResultVar.tmp 4]) Try.func32 rfl rfl rfl (E0 := [(0, (rd 1 eStr a)), (1, (tN k))]) rfl ?_
  have hlim : lim = 1099511627776 := rfl
  have hmx : mx = 1048576 := rfl
  have hmax : maxLen = 9223372036854775807 := rfl
  refine sr ?_
  refine fO (OF.assign (VEv.int .i64 0)) ?_
  refine nt ?_
  refine sq ?_
  refine sr ?_
  refine fO (OF.assign (VEv.int .i64 0)) ?_
  refine nt ?_
  refine VRun.block ?_
  refine VRun.loop (A := Nat) (fun s_ => [(0, (rd 1 eStr a)), (1, (tN (k + 1 * s_))), (5, (tN s_))]) (fun s_ => mkO []) 0 (fun s_ => s_ ≤ a.length) (fun s_ => a.length - s_) (0 : Nat) ?_ (Wk.mk (fun k => k) ?_ ?_ ?_) ?_
  · first | trivial | (simp; done) | omega | (constructor <;> simp)
  · exact (ball_cons ⟨rfl, rfl⟩ (ball_cons ⟨(congrArg (T.int .i64) (show ((k : Nat) : Int) = ((k + 1 * 0 : Nat) : Int) from (by first | rfl | omega | (simp; done) | (push_cast; omega)))), rfl⟩ (ball_cons ⟨rfl, rfl⟩ (ball_nil))))
  · exact (ball_nil)
  · show List.Nodup ([] : List Nat)
    decide
  rintro i hI
  have hI' : i ≤ a.length := hI
  clear hI
  show VRun _ _ _ [(0, (rd 1 eStr a)), (1, (tN (k + 1 * i))), (5, (tN i))] (mkO []) 0 _
  refine sq ?_
  refine sr ?_
  refine mO (tN i) rfl ?_
  refine mO (rd 1 eStr a) rfl ?_
  refine lO (B.lenR (m := a.length) (tv (rd 1 eStr a) rfl) Try.underlying36 (List.length_map ..)) ?_
  refine fO (B.lss (c := (decide (i < a.length))) (tv (tN i) rfl) (tv (tN a.length) rfl) (by first | (exact decN (by omega)))) ?_
  refine nt ?_
  refine VRun.cond (tv (tB (decide (i < a.length))) rfl) (fun hc0 => ?_) (fun hc0 => ?_)
  · have fhc0 : i < a.length := of_decide_eq_true hc0
    refine sk ?_
    refine tn ?_
    refine sq ?_
    refine VRun.block ?_
    refine sq ?_
    refine sq ?_
    refine VRun.draw (B := [[], [], [1, 0], [0, 1, 2], [], [4], [4, 5, 2, 1, 0, 3]]) (by kernel_rfl) (by kernel_rfl) ?_
    refine mD (rd 1 eStr a) rfl rfl ?_
    refine mD (tN i) rfl rfl ?_
    obtain ⟨x1, hx1⟩ : ∃ x, a[i]? = some x := ⟨_, List.getElem?_eq_getElem (by first | omega)⟩
    refine fD (OF.indexAddrR (row := (eStr false x1)) (i := i) (tv (rd 1 eStr a) rfl) (tv (tN i) rfl) rfl (map_at _ hx1) Try.underlying36 sz9 if9) rfl rfl ?_
    refine lD (OL.loadR1 (t := (tS x1)) (tv (T.rp [(tS x1)]) rfl) rfl st9) rfl rfl ?_
    refine mD (tN (k + 1 * i)) rfl rfl ?_
    refine VRunD.quiet (bi := [4]) rfl VWant.always rfl rfl rfl (ball_nil) (cS (vc (tv (tN (k + 1 * i)) rfl) VEvs.nil) (lp rfl (LendL.nil)) (W_laws_markText (n + 0) ((k + 1 * i : Nat) : Int) (by first | assumption | omega)) rfl rfl) ?_
    refine fD (B.sneq (c := (!(decide (x1 = mtxt ((k + 1 * i : Nat) : Int))))) (tv (tS x1) rfl) (tv (tS (mtxt ((k + 1 * i : Nat) : Int))) rfl) rfl) rfl rfl ?_
    refine VRunD.nil ?_
    refine tn ?_
    refine VRun.cond (tv (tB (!(decide (x1 = mtxt ((k + 1 * i : Nat) : Int))))) rfl) (fun hc1 => ?_) (fun hc1 => ?_)
    · have fhc1 : ¬ (x1 = mtxt ((k + 1 * i : Nat) : Int)) := ndT hc1
      exact absurd (mkN_at hh hx1) fhc1
    have fhc1 : x1 = mtxt ((k + 1 * i : Nat) : Int) := ndF hc1
    refine sk ?_
    refine tn ?_
    refine VRun.region ?_
    refine mO (tN (k + 1 * i)) rfl ?_
    refine fO (B.add (n := (((k + 1 * i + 1) : Nat) : Int)) (tv (tN (k + 1 * i)) rfl) (VEv.int .i64 1) (by first | rfl | (rw [wrap64 (by omega)]; omega) | (rw [wrap64 (by omega)]; done))) ?_
    refine aO (tN (k + 1 * i + 1)) rfl ?_
    refine VRunO.nil ?_
    refine vinB.n ?_
    refine tn ?_
    refine VRun.region ?_
    refine mO (tN i) rfl ?_
    refine fO (B.add (n := (((i + 1) : Nat) : Int)) (tv (tN i) rfl) (VEv.int .i64 1) (by first | rfl | (rw [wrap64 (by omega)]; omega) | (rw [wrap64 (by omega)]; done))) ?_
    refine aO (tN (i + 1)) rfl ?_
    refine VRunO.nil ?_
    refine tn ?_
    refine ⟨(i + 1 : Nat), ?_, ?_, Wk.mk (fun k => k) ?_ ?_ ?_⟩
    · first | trivial | omega | (simp; done) | exact ⟨by omega, hI'.2⟩
    · first | omega | (simp only []; omega) | (show _ < _; omega) | (simp; omega)
    · exact (ball_cons ⟨rfl, rfl⟩ (ball_cons ⟨(congrArg (T.int .i64) (show (((k + 1 * i + 1) : Nat) : Int) = ((k + 1 * (i + 1) : Nat) : Int) from (by first | rfl | omega | (simp; done) | (push_cast; omega)))), rfl⟩ (ball_cons ⟨rfl, rfl⟩ (ball_nil))))
    · exact (ball_nil)
    · show List.Nodup ([] : List Nat)
      decide
  have fhc0 : ¬ (i < a.length) := of_decide_eq_false hc0
  refine VRun.exit ?_
  refine vthn.e ?_
  refine vthn.e ?_
  refine vinB.e ?_
  refine tn ?_
  refine sr ?_
  refine mO (tN (k + 1 * i)) rfl ?_
  refine aO (tN (k + 1 * i)) rfl ?_
  refine nt ?_
  refine rt ?_
  refine vi (n' := ((k + 1 * i : Nat) : Int)) rfl ?_
  omega
end Go.Proofs.Ythdnjihmjdbdkaa.AE
