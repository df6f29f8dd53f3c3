/- Walks of the program's functions over trees. Conditions: as each theorem states. -/
import Derived.Test.YthdnjihmjdbdkaaKFnExactAddReportVa
namespace Go.Proofs.Ythdnjihmjdbdkaa.AE
open Go Go.RowKit
set_option linter.unusedVariables false
set_option linter.unusedSimpArgs false
set_option maxRecDepth 20000
set_option maxHeartbeats 2000000

noncomputable section
def mDig : Nat → Int → ByteArray → ByteArray
  | 0, _, acc => acc
  | f + 1, k, acc => if 0 < k then mDig f (k.tdiv 10) (mkStr [IntKind.u8.wrap (48 + k.tmod 10)] ++ acc) else acc
def mtxt (k : Int) : ByteArray := if k ≤ 0 then ⟨#[109, 48]⟩ else ⟨#[109]⟩ ++ mDig k.toNat k ⟨#[]⟩
theorem mDig_next {f : Nat} {k : Int} {acc : ByteArray} (hk : 0 < k) (hf : k.toNat ≤ f) : 0 ≤ k.tdiv 10 ∧ (k.tdiv 10).toNat ≤ f - 1 ∧ mDig f k acc = mDig (f - 1) (k.tdiv 10) (mkStr [IntKind.u8.wrap (48 + k.tmod 10)] ++ acc) := by
  have h1 : k.tdiv 10 = k / 10 := Int.tdiv_eq_ediv_of_nonneg (by omega)
  cases f with
  | zero => omega
  | succ f =>
    refine ⟨by omega, by omega, ?_⟩
    simp only [mDig, if_pos hk]
    rfl
theorem mDig_end {f : Nat} {k : Int} {acc : ByteArray} (hk : ¬ 0 < k) : mDig f k acc = acc := by
  cases f with
  | zero => rfl
  | succ f => simp only [mDig, if_neg hk]
theorem mkStr1 (n : Int) : (mkStr [n]).size = 1 := rfl
theorem tmod10 {k : Int} (h : 0 < k) : 0 ≤ k.tmod 10 ∧ k.tmod 10 < 10 ∧ 0 ≤ k.tdiv 10 ∧ k.tdiv 10 ≤ k := by
  rw [Int.tmod_eq_emod_of_nonneg (by omega), Int.tdiv_eq_ediv_of_nonneg (by omega)]
  omega
end
theorem W_laws_markText (n : Nat) (q : Int) (hq : q ≤ lim) : Pure (acall Try.prog (n + 1)) 93 [(tI q)] (tS (mtxt q)) := by
  refine Pure.intro (rs := [ResultVar.tmp 2]) Try.func93 rfl rfl rfl (E0 := [(0, (tI q))]) rfl ?_
  have hlim : lim = 1099511627776 := rfl
  have hmx : mx = 1048576 := rfl
  have hmax : maxLen = 9223372036854775807 := rfl
  refine sr ?_
  refine fO (OF.assign (VEv.str (⟨#[]⟩ : ByteArray))) ?_
  refine nt ?_
  refine sq ?_
  refine sr ?_
  refine mO (tI q) rfl ?_
  refine fO (B.leq (c := (decide (q ≤ 0))) (tv (tI q) rfl) (VEv.int .i64 0) rfl) ?_
  refine nt ?_
  refine VRun.cond (tv (tB (decide (q ≤ 0))) rfl) (fun hc0 => ?_) (fun hc0 => ?_)
  · have fhc0 : q ≤ 0 := of_decide_eq_true hc0
    refine sr ?_
    refine fO (OF.assign (VEv.str (⟨#[109, 48]⟩ : ByteArray))) ?_
    refine nt ?_
    refine rt ?_
    refine tr ?_
    refine vfin.eq (r' := (tS (⟨#[109, 48]⟩ : ByteArray))) ?_ (vfin.r (VRes.tmp (t := (tS (⟨#[109, 48]⟩ : ByteArray))) rfl VRes.nil) (Give.str _))
    show (tS (⟨#[109, 48]⟩ : ByteArray)) = (tS (mtxt q))
    refine congrArg T.str ?_
    exact (if_pos fhc0).symm
  have fhc0 : ¬ (q ≤ 0) := of_decide_eq_false hc0
  refine sk ?_
  refine tn ?_
  refine sr ?_
  refine fO (OF.assign (VEv.str (⟨#[]⟩ : ByteArray))) ?_
  refine nt ?_
  refine sq ?_
  refine VRun.block ?_
  refine VRun.loop (A := Int × Nat × ByteArray) (fun s_ => [(0, (tI s_.1)), (2, (tS (⟨#[]⟩ : ByteArray))), (3, (tS s_.2.2))]) (fun s_ => mkO []) 0 (fun s_ => 0 ≤ s_.1 ∧ s_.1.toNat ≤ s_.2.1 ∧ s_.2.2.size + s_.2.1 ≤ q.toNat ∧ mDig q.toNat q ⟨#[]⟩ = mDig s_.2.1 s_.1 s_.2.2) (fun s_ => s_.2.1) ((q, q.toNat, ⟨#[]⟩) : Int × Nat × ByteArray) ?_ (Wk.mk (fun k => k) ?_ ?_ ?_) ?_
  · exact ⟨by omega, Nat.le_refl _, by show 0 + q.toNat ≤ q.toNat; omega, rfl⟩
  · exact (ball_cons ⟨rfl, rfl⟩ (ball_cons ⟨rfl, rfl⟩ (ball_cons ⟨(congrArg T.str (show (⟨#[]⟩ : ByteArray) = ⟨#[]⟩ from (by first | rfl | assumption | (simp_all; done)))), rfl⟩ (ball_nil))))
  · exact (ball_nil)
  · show List.Nodup ([] : List Nat)
    decide
  rintro ⟨k, f, acc⟩ hI
  have hI' : 0 ≤ k ∧ k.toNat ≤ f ∧ acc.size + f ≤ q.toNat ∧ mDig q.toNat q ⟨#[]⟩ = mDig f k acc := hI
  clear hI
  show VRun _ _ _ [(0, (tI k)), (2, (tS (⟨#[]⟩ : ByteArray))), (3, (tS acc))] (mkO []) 0 _
  have hI1 := hI'.1
  have hI2 := hI'.2.1
  have hI3 := hI'.2.2.1
  have hI4 := hI'.2.2.2
  refine sq ?_
  refine sr ?_
  refine mO (tI k) rfl ?_
  refine fO (B.gtr (c := (decide (0 < k))) (tv (tI k) rfl) (VEv.int .i64 0) rfl) ?_
  refine nt ?_
  refine VRun.cond (tv (tB (decide (0 < k))) rfl) (fun hc1 => ?_) (fun hc1 => ?_)
  · have fhc1 : 0 < k := of_decide_eq_true hc1
    obtain ⟨m1, m2, m3, m4⟩ := tmod10 fhc1
    refine sk ?_
    refine tn ?_
    refine VRun.block ?_
    refine sr ?_
    refine mO (tI k) rfl ?_
    refine fO (B.rem (n := (k.tmod 10)) (tv (tI k) rfl) (VEv.int .i64 10) (by omega) (by first | (simp only [mkStr1]; omega) | (rw [show (⟨#[109]⟩ : ByteArray).size = 1 from rfl]; omega) | rfl | (rw [wrap64 (by omega)]; omega) | (rw [wrap64 (by omega)]; done))) ?_
    refine fO (B.add (n := (48 + (k.tmod 10))) (VEv.int .i64 48) (tv (tI (k.tmod 10)) rfl) (by first | (simp only [mkStr1]; omega) | (rw [show (⟨#[109]⟩ : ByteArray).size = 1 from rfl]; omega) | rfl | (rw [wrap64 (by omega)]; omega) | (rw [wrap64 (by omega)]; done))) ?_
    refine fO (OF.convI (tv (tI (48 + (k.tmod 10))) rfl) (k0 := .i64) Try.underlying3 Try.underlying5) ?_
    refine kO (OM.buildSlice (l := [(T.int .u8 (IntKind.u8.wrap (48 + (k.tmod 10))))]) (VEvp.cons (tv (T.int .u8 (IntKind.u8.wrap (48 + (k.tmod 10)))) rfl) VEvp.nil) rfl (by decide) (ball_cons (nofun) (ball_nil)) (ball_cons ((ball_cons (rfl) (ball_nil))) (ball_nil)) (ball_cons (rfl) (ball_nil)) Try.underlying164 zo5 (by kernel_rfl) rfl (by rw [sz5]; decide) sz5 (Nat.le_of_ble_eq_true rfl)) ?_
    refine lO (B.convBS (l := [IntKind.u8.wrap (48 + (k.tmod 10))]) (tv (T.os 1 0 0 1) rfl) rfl rfl Try.underlying164 Try.underlying5 Try.underlying9) ?_
    refine mO (tS acc) rfl ?_
    refine fO (B.sadd (tv (tS (mkStr [IntKind.u8.wrap (48 + (k.tmod 10))])) rfl) (tv (tS acc) rfl) (by first | (simp only [mkStr1]; omega) | (rw [show (⟨#[109]⟩ : ByteArray).size = 1 from rfl]; omega) | omega | (simp only [List.length_map]; omega) | (simp only [List.length_map, List.length_append, List.length_cons, List.length_nil, List.length_replicate, List.length_set, List.length_drop, List.length_take, lim] at *; omega))) ?_
    refine aO (tS ((mkStr [IntKind.u8.wrap (48 + (k.tmod 10))]) ++ acc)) rfl ?_
    refine nt ?_
    refine VRun.region ?_
    refine mO (tI k) rfl ?_
    refine fO (B.quo (n := (k.tdiv 10)) (tv (tI k) rfl) (VEv.int .i64 10) (by omega) (by first | (simp only [mkStr1]; omega) | (rw [show (⟨#[109]⟩ : ByteArray).size = 1 from rfl]; omega) | rfl | (rw [wrap64 (by omega)]; omega) | (rw [wrap64 (by omega)]; done))) ?_
    refine aO (tI (k.tdiv 10)) rfl ?_
    refine VRunO.nil ?_
    refine vinB.n ?_
    refine tn ?_
    obtain ⟨n1, n2, n3⟩ := mDig_next (acc := acc) fhc1 hI2
    refine ⟨((k.tdiv 10, f - 1, mkStr [IntKind.u8.wrap (48 + k.tmod 10)] ++ acc) : Int × Nat × ByteArray), ?_, ?_, Wk.mk (fun k => k) ?_ ?_ ?_⟩
    · exact ⟨n1, n2, by show (mkStr _ ++ acc).size + (f - 1) ≤ q.toNat; rw [ByteArray.size_append, mkStr1]; omega, hI4.trans n3⟩
    · first | omega | (simp only []; omega) | (show _ < _; omega) | (simp; omega)
    · exact (ball_cons ⟨rfl, rfl⟩ (ball_cons ⟨rfl, rfl⟩ (ball_cons ⟨(congrArg T.str (show ((mkStr [IntKind.u8.wrap (48 + (k.tmod 10))]) ++ acc) = (mkStr [IntKind.u8.wrap (48 + k.tmod 10)] ++ acc) from (by first | rfl | assumption | (simp_all; done)))), rfl⟩ (ball_nil))))
    · exact (ball_nil)
    · show List.Nodup ([] : List Nat)
      decide
  have fhc1 : ¬ (0 < k) := of_decide_eq_false hc1
  refine VRun.exit ?_
  refine vthn.e ?_
  refine vthn.e ?_
  refine vinB.e ?_
  refine tn ?_
  refine sr ?_
  refine mO (tS acc) rfl ?_
  refine fO (B.sadd (VEv.str (⟨#[109]⟩ : ByteArray)) (tv (tS acc) rfl) (by first | (simp only [mkStr1]; omega) | (rw [show (⟨#[109]⟩ : ByteArray).size = 1 from rfl]; omega) | omega | (simp only [List.length_map]; omega) | (simp only [List.length_map, List.length_append, List.length_cons, List.length_nil, List.length_replicate, List.length_set, List.length_drop, List.length_take, lim] at *; omega))) ?_
  refine aO (tS ((⟨#[109]⟩ : ByteArray) ++ acc)) rfl ?_
  refine nt ?_
  refine rt ?_
  refine vfin.eq (r' := (tS ((⟨#[109]⟩ : ByteArray) ++ acc))) ?_ (vfin.r (VRes.tmp (t := (tS ((⟨#[109]⟩ : ByteArray) ++ acc))) rfl VRes.nil) (Give.str _))
  show (tS ((⟨#[109]⟩ : ByteArray) ++ acc)) = (tS (mtxt q))
  refine congrArg T.str ?_
  unfold mtxt
  rw [if_neg fhc0, hI4, mDig_end fhc1]
noncomputable section
def mString (k : Nat) : ByteArray := mtxt ((k : Nat) : Int)
end
end Go.Proofs.Ythdnjihmjdbdkaa.AE
