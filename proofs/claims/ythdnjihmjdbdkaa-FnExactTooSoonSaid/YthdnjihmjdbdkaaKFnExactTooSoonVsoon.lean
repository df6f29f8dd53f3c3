/- Walks of the program's functions over trees. Conditions: as each theorem states. -/
import Derived.Test.YthdnjihmjdbdkaaKFnExactTooSoonFmk
namespace Go.Proofs.Ythdnjihmjdbdkaa.AE
open Go Go.RowKit
set_option linter.unusedVariables false
set_option linter.unusedSimpArgs false
set_option maxRecDepth 20000
set_option maxHeartbeats 2000000

noncomputable section
def luStep (w : ByteArray) (r : Int) (x : D.Used) : Int := if x.Word = w then max r x.Issue else r
def lastUse (l : List D.Used) (w : ByteArray) : Int := l.foldl (luStep w) 0
theorem lastUse_next {l : List D.Used} {w : ByteArray} {i : Nat} {x : D.Used} (h : l[i]? = some x) : lastUse (l.take (i + 1)) w = luStep w (lastUse (l.take i) w) x := by
  unfold lastUse
  rw [List.take_add_one, h, List.foldl_append]
  rfl
theorem luFold_bd {w : ByteArray} : ∀ {l : List D.Used} {r : Int}, (∀ x ∈ l, x.Issue ≤ 9223372036854775807) → 0 ≤ r → r ≤ 9223372036854775807 → 0 ≤ l.foldl (luStep w) r ∧ l.foldl (luStep w) r ≤ 9223372036854775807
  | [], r, _, h1, h2 => ⟨h1, h2⟩
  | x :: l, r, h, h1, h2 => by
    have h3 := h x (by simp)
    refine luFold_bd (l := l) (fun y hy => h y (by simp [hy])) ?_ ?_
    · unfold luStep; split <;> omega
    · unfold luStep; split <;> omega
theorem lastUse_bd {l : List D.Used} (w : ByteArray) (hg : ∀ y ∈ l, GUsed y) : 0 ≤ lastUse l w ∧ lastUse l w ≤ 9223372036854775807 := luFold_bd (fun x hx => by
  obtain ⟨_, h⟩ := hg x hx
  simp only [Lit.wf, Bool.and_eq_true, decide_eq_true_eq] at h
  exact Int.le_trans h.2 (by decide)) (by decide) (by decide)
def mayUse (l : List D.Used) (w : ByteArray) (n g : Int) : Prop := (1 ≤ n ∧ n ≤ 999) ∧ (0 ≤ g ∧ g ≤ 999) ∧ (lastUse l w = 0 ∨ lastUse l w < n - g)
instance (l : List D.Used) (w : ByteArray) (n g : Int) : Decidable (mayUse l w n g) := Classical.propDecidable _
def tooSoon (l : List D.Used) (ws : List ByteArray) (n g : Int) : List ByteArray := ws.filter fun w => !decide (mayUse l w n g)
theorem tooSoon_len (l : List D.Used) (ws : List ByteArray) (n g : Int) : (tooSoon l ws n g).length ≤ ws.length := List.length_filter_le _ _
theorem tooSoon_next {l : List D.Used} {ws : List ByteArray} {n g : Int} {i : Nat} {w : ByteArray} (h : ws[i]? = some w) : tooSoon l (ws.take (i + 1)) n g = tooSoon l (ws.take i) n g ++ (if mayUse l w n g then [] else [w]) := by
  unfold tooSoon
  rw [List.take_add_one, h, List.filter_append]
  by_cases hp : mayUse l w n g
  · simp [hp]
  · simp [hp]
end
theorem W_spec_Max (n : Nat) (a : Int) (b : Int)  : Pure (acall Try.prog (n + 1)) 153 [(tI a), (tI b)] (tI (max a b)) := by
  refine Pure.intro (rs := [ResultVar.tmp 4]) Try.func153 rfl rfl rfl (E0 := [(0, (tI a)), (1, (tI b))]) rfl ?_
  have hlim : lim = 1099511627776 := rfl
  have hmx : mx = 1048576 := rfl
  have hmax : maxLen = 9223372036854775807 := rfl
  refine sr ?_
  refine fO (OF.assign (VEv.int .i64 0)) ?_
  refine nt ?_
  refine sq ?_
  refine sr ?_
  refine mO (tI b) rfl ?_
  refine mO (tI a) rfl ?_
  refine fO (B.gtr (c := (decide (a < b))) (tv (tI b) rfl) (tv (tI a) rfl) rfl) ?_
  refine nt ?_
  refine VRun.cond (tv (tB (decide (a < b))) rfl) (fun hc0 => ?_) (fun hc0 => ?_)
  · have fhc0 : a < b := of_decide_eq_true hc0
    refine sr ?_
    refine mO (tI b) rfl ?_
    refine aO (tI b) rfl ?_
    refine nt ?_
    refine rt ?_
    refine tr ?_
    refine vi (n' := b) rfl ?_
    omega
  have fhc0 : ¬ (a < b) := of_decide_eq_false hc0
  refine sk ?_
  refine tn ?_
  refine sr ?_
  refine mO (tI a) rfl ?_
  refine aO (tI a) rfl ?_
  refine nt ?_
  refine rt ?_
  refine vi (n' := a) rfl ?_
  omega
theorem W_spec_LastUse (n : Nat) (l : List D.Used) (w : ByteArray) (hl : l.length ≤ mx) : Pure (acall Try.prog (n + 2)) 132 [(rd 2 eUsed l), (tS w)] (tI (lastUse l w)) := by
  refine Pure.intro (rs := [ResultVar.tmp 4]) Try.func132 rfl rfl rfl (E0 := [(0, (rd 2 eUsed l)), (1, (tS w))]) rfl ?_
  have hlim : lim = 1099511627776 := rfl
  have hmx : mx = 1048576 := rfl
  have hmax : maxLen = 9223372036854775807 := rfl
  refine sr ?_
  refine fO (OF.assign (VEv.int .i64 0)) ?_
  refine nt ?_
  refine sr ?_
  refine fO (OF.assign (VEv.int .i64 0)) ?_
  refine nt ?_
  refine sq ?_
  refine sr ?_
  refine fO (OF.assign (VEv.int .i64 0)) ?_
  refine nt ?_
  refine VRun.block ?_
  refine VRun.loop (A := Nat) (fun s_ => [(0, (rd 2 eUsed l)), (1, (tS w)), (4, (tN 0)), (5, (tI (lastUse (l.take s_) w))), (6, (tN s_))]) (fun s_ => mkO []) 0 (fun s_ => s_ ≤ l.length) (fun s_ => l.length - s_) (0 : Nat) ?_ (Wk.mk (fun k => k) ?_ ?_ ?_) ?_
  · first | trivial | (simp; done) | omega | (constructor <;> simp)
  · exact (ball_cons ⟨rfl, rfl⟩ (ball_cons ⟨rfl, rfl⟩ (ball_cons ⟨rfl, rfl⟩ (ball_cons ⟨(congrArg (T.int .i64) (show 0 = lastUse (l.take 0) w from (by first | rfl | omega | (rw [lastUse_next hx1, luStep, if_pos fhc1]) | (rw [lastUse_next hx1, luStep, if_neg fhc1]) | (simp; done) | (push_cast; omega)))), rfl⟩ (ball_cons ⟨rfl, rfl⟩ (ball_nil))))))
  · exact (ball_nil)
  · show List.Nodup ([] : List Nat)
    decide
  rintro i hI
  have hI' : i ≤ l.length := hI
  clear hI
  show VRun _ _ _ [(0, (rd 2 eUsed l)), (1, (tS w)), (4, (tN 0)), (5, (tI (lastUse (l.take i) w))), (6, (tN i))] (mkO []) 0 _
  have hI1 := hI'
  refine sq ?_
  refine sr ?_
  refine mO (tN i) rfl ?_
  refine mO (rd 2 eUsed l) rfl ?_
  refine lO (B.lenR (m := l.length) (tv (rd 2 eUsed l) rfl) Try.underlying25 (List.length_map ..)) ?_
  refine fO (B.lss (c := (decide (i < l.length))) (tv (tN i) rfl) (tv (tN l.length) rfl) (by first | (exact decN (by omega)))) ?_
  refine nt ?_
  refine VRun.cond (tv (tB (decide (i < l.length))) rfl) (fun hc0 => ?_) (fun hc0 => ?_)
  · have fhc0 : i < l.length := of_decide_eq_true hc0
    refine sk ?_
    refine tn ?_
    refine sq ?_
    refine VRun.block ?_
    refine sr ?_
    refine mO (rd 2 eUsed l) rfl ?_
    refine mO (tN i) rfl ?_
    obtain ⟨x1, hx1⟩ : ∃ x, l[i]? = some x := ⟨_, List.getElem?_eq_getElem (by first | omega)⟩
    refine fO (OF.indexAddrR (row := (eUsed false x1)) (i := i) (tv (rd 2 eUsed l) rfl) (tv (tN i) rfl) rfl (map_at _ hx1) Try.underlying25 sz127 if127) ?_
    refine fO (B.fieldAddrR (us := (eUsed false x1)) (tv (T.rp (eUsed false x1)) rfl) (Nat.le_of_ble_eq_true rfl) fa127_0 rfl) ?_
    refine lO (OL.loadR1 (t := (tS x1.Word)) (tv (T.rp (eUsed false x1)) rfl) rfl st9) ?_
    refine mO (tS w) rfl ?_
    refine fO (B.seql (c := (decide (x1.Word = w))) (tv (tS x1.Word) rfl) (tv (tS w) rfl) rfl) ?_
    refine nt ?_
    refine VRun.cond (tv (tB (decide (x1.Word = w))) rfl) (fun hc1 => ?_) (fun hc1 => ?_)
    · have fhc1 : x1.Word = w := of_decide_eq_true hc1
      refine VRun.region ?_
      refine mO (tI (lastUse (l.take i) w)) rfl ?_
      refine mO (rd 2 eUsed l) rfl ?_
      refine mO (tN i) rfl ?_
      refine fO (OF.indexAddrR (row := (eUsed false x1)) (i := i) (tv (rd 2 eUsed l) rfl) (tv (tN i) rfl) rfl (map_at _ hx1) Try.underlying25 sz127 if127) ?_
      refine fO (B.fieldAddrR (us := [(tI x1.Issue)]) (tv (T.rp (eUsed false x1)) rfl) (Nat.le_of_ble_eq_true rfl) fa127_1 rfl) ?_
      refine lO (OL.loadR1 (t := (tI x1.Issue)) (tv (T.rp [(tI x1.Issue)]) rfl) rfl st3) ?_
      refine cO (cS (vc (tv (tI (lastUse (l.take i) w)) rfl) (vc (tv (tI x1.Issue) rfl) VEvs.nil)) (lp rfl (lp rfl (LendL.nil))) (W_spec_Max (n + 0) (lastUse (l.take i) w) x1.Issue ) rfl rfl) ?_
      refine aO (tI (max (lastUse (l.take i) w) x1.Issue)) rfl ?_
      refine VRunO.nil ?_
      refine vinB.n ?_
      refine tn ?_
      refine VRun.region ?_
      refine mO (tN i) rfl ?_
      refine fO (B.add (n := (((i + 1) : Nat) : Int)) (tv (tN i) rfl) (VEv.int .i64 1) (by first | rfl | (rw [wrap64 (by omega)]; omega) | (rw [wrap64 (by omega)]; done))) ?_
      refine aO (tN (i + 1)) rfl ?_
      refine VRunO.nil ?_
      refine tn ?_
      refine ⟨(i + 1 : Nat), ?_, ?_, Wk.mk (fun k => k) ?_ ?_ ?_⟩
      · first | trivial | omega | (simp; done) | exact ⟨by omega, hI'.2⟩
      · first | omega | (simp only []; omega) | (show _ < _; omega) | (simp; omega)
      · exact (ball_cons ⟨rfl, rfl⟩ (ball_cons ⟨rfl, rfl⟩ (ball_cons ⟨rfl, rfl⟩ (ball_cons ⟨(congrArg (T.int .i64) (show max (lastUse (l.take i) w) x1.Issue = lastUse (l.take (i + 1)) w from (by first | rfl | omega | (rw [lastUse_next hx1, luStep, if_pos fhc1]) | (rw [lastUse_next hx1, luStep, if_neg fhc1]) | (simp; done) | (push_cast; omega)))), rfl⟩ (ball_cons ⟨rfl, rfl⟩ (ball_nil))))))
      · exact (ball_nil)
      · show List.Nodup ([] : List Nat)
        decide
    have fhc1 : ¬ (x1.Word = w) := of_decide_eq_false hc1
    refine sk ?_
    refine vinB.n ?_
    refine tn ?_
    refine VRun.region ?_
    refine mO (tN i) rfl ?_
    refine fO (B.add (n := (((i + 1) : Nat) : Int)) (tv (tN i) rfl) (VEv.int .i64 1) (by first | rfl | (rw [wrap64 (by omega)]; omega) | (rw [wrap64 (by omega)]; done))) ?_
    refine aO (tN (i + 1)) rfl ?_
    refine VRunO.nil ?_
    refine tn ?_
    refine ⟨(i + 1 : Nat), ?_, ?_, Wk.mk (fun k => k) ?_ ?_ ?_⟩
    · first | trivial | omega | (simp; done) | exact ⟨by omega, hI'.2⟩
    · first | omega | (simp only []; omega) | (show _ < _; omega) | (simp; omega)
    · exact (ball_cons ⟨rfl, rfl⟩ (ball_cons ⟨rfl, rfl⟩ (ball_cons ⟨rfl, rfl⟩ (ball_cons ⟨(congrArg (T.int .i64) (show lastUse (l.take i) w = lastUse (l.take (i + 1)) w from (by first | rfl | omega | (rw [lastUse_next hx1, luStep, if_pos fhc1]) | (rw [lastUse_next hx1, luStep, if_neg fhc1]) | (simp; done) | (push_cast; omega)))), rfl⟩ (ball_cons ⟨rfl, rfl⟩ (ball_nil))))))
    · exact (ball_nil)
    · show List.Nodup ([] : List Nat)
      decide
  have fhc0 : ¬ (i < l.length) := of_decide_eq_false hc0
  refine VRun.exit ?_
  refine vthn.e ?_
  refine vthn.e ?_
  refine vinB.e ?_
  refine tn ?_
  refine sr ?_
  refine mO (tI (lastUse (l.take i) w)) rfl ?_
  refine aO (tI (lastUse (l.take i) w)) rfl ?_
  refine nt ?_
  refine rt ?_
  refine vi (n' := lastUse (l.take i) w) rfl ?_
  rw [List.take_of_length_le (by omega)]
theorem W_impl_LastUse (n : Nat) (l : List D.Used) (w : ByteArray) (hl : l.length ≤ mx) : Pure (acall Try.prog (n + 1)) 133 [(rd 2 eUsed l), (tS w)] (tI (lastUse l w)) := by
  refine Pure.intro (rs := [ResultVar.tmp 4]) Try.func133 rfl rfl rfl (E0 := [(0, (rd 2 eUsed l)), (1, (tS w))]) rfl ?_
  have hlim : lim = 1099511627776 := rfl
  have hmx : mx = 1048576 := rfl
  have hmax : maxLen = 9223372036854775807 := rfl
  refine sr ?_
  refine fO (OF.assign (VEv.int .i64 0)) ?_
  refine nt ?_
  refine sr ?_
  refine fO (OF.assign (VEv.int .i64 0)) ?_
  refine nt ?_
  refine sq ?_
  refine sr ?_
  refine mO (rd 2 eUsed l) rfl ?_
  refine lO (B.lenR (m := l.length) (tv (rd 2 eUsed l) rfl) Try.underlying25 (List.length_map ..)) ?_
  refine fO (OF.move (VEv.int .i64 0)) ?_
  refine nt ?_
  refine VRun.block ?_
  refine VRun.loop (A := Nat) (fun s_ => [(1, (tS w)), (4, (tN 0)), (5, (tI (lastUse (l.take s_) w))), (8, (rd 2 eUsed l)), (9, (tN l.length)), (10, (tN s_))]) (fun s_ => mkO []) 0 (fun s_ => s_ ≤ l.length) (fun s_ => l.length - s_) (0 : Nat) ?_ (Wk.mk (fun k => k) ?_ ?_ ?_) ?_
  · first | trivial | (simp; done) | omega | (constructor <;> simp)
  · exact (ball_cons ⟨rfl, rfl⟩ (ball_cons ⟨rfl, rfl⟩ (ball_cons ⟨(congrArg (T.int .i64) (show 0 = lastUse (l.take 0) w from (by first | rfl | omega | (rw [lastUse_next hx1, luStep, if_pos fhc1]) | (rw [lastUse_next hx1, luStep, if_neg fhc1]) | (simp; done) | (push_cast; omega)))), rfl⟩ (ball_cons ⟨rfl, rfl⟩ (ball_cons ⟨rfl, rfl⟩ (ball_cons ⟨rfl, rfl⟩ (ball_nil)))))))
  · exact (ball_nil)
  · show List.Nodup ([] : List Nat)
    decide
  rintro i hI
  have hI' : i ≤ l.length := hI
  clear hI
  show VRun _ _ _ [(1, (tS w)), (4, (tN 0)), (5, (tI (lastUse (l.take i) w))), (8, (rd 2 eUsed l)), (9, (tN l.length)), (10, (tN i))] (mkO []) 0 _
  have hI1 := hI'
  refine sr ?_
  refine fO (B.lss (c := (decide (i < l.length))) (tv (tN i) rfl) (tv (tN l.length) rfl) (by first | (exact decN (by omega)))) ?_
  refine nt ?_
  refine sq ?_
  refine VRun.cond (tv (tB (decide (i < l.length))) rfl) (fun hc0 => ?_) (fun hc0 => ?_)
  · have fhc0 : i < l.length := of_decide_eq_true hc0
    refine sk ?_
    refine tn ?_
    refine sq ?_
    refine VRun.block ?_
    refine sr ?_
    obtain ⟨x1, hx1⟩ : ∃ x, l[i]? = some x := ⟨_, List.getElem?_eq_getElem (by first | omega)⟩
    refine fO (OF.indexAddrR (row := (eUsed false x1)) (i := i) (tv (rd 2 eUsed l) rfl) (tv (tN i) rfl) rfl (map_at _ hx1) Try.underlying25 sz127 if127) ?_
    refine lO (OL.loadRn (us := (eUsed false x1)) (tv (T.rp (eUsed false x1)) rfl) st127 sz127 (Nat.le_of_ble_eq_true rfl) rfl) ?_
    refine kO (B.alloc (t := (T.agg [(tS ByteArray.empty), (tN 0)])) (ts := [(tS ByteArray.empty), (tN 0)]) zo127 zc127 nofun (fun _ => .agg _ _ rfl (RLof (RL.cons (.str _) (RL.cons (.int _ _) (RL.nil _))))) rfl) ?_
    refine cO (B.storeO (us := (eUsed false x1)) (ws := (eUsed false x1)) (tv (T.op 0 0) rfl) (tv (T.agg (eUsed false x1)) rfl) nofun rfl rfl (Nat.le_of_ble_eq_true rfl) if127 sz127 (ball_cons rfl (ball_cons rfl (ball_nil))) rfl) ?_
    refine nt ?_
    refine sr ?_
    refine fO (OF.fieldAddrO (tv (T.op 0 0) rfl) fa127_0) ?_
    refine lO (OL.loadO1 (t := (tS x1.Word)) (tv (T.op 0 0) rfl) rfl rfl st9) ?_
    refine mO (tS w) rfl ?_
    refine fO (B.seql (c := (decide (x1.Word = w))) (tv (tS x1.Word) rfl) (tv (tS w) rfl) rfl) ?_
    refine nt ?_
    refine VRun.cond (tv (tB (decide (x1.Word = w))) rfl) (fun hc1 => ?_) (fun hc1 => ?_)
    · have fhc1 : x1.Word = w := of_decide_eq_true hc1
      refine VRun.region ?_
      refine mO (tI (lastUse (l.take i) w)) rfl ?_
      refine fO (OF.fieldAddrO (tv (T.op 0 0) rfl) fa127_1) ?_
      refine lO (OL.loadO1 (t := (tI x1.Issue)) (tv (T.op 0 1) rfl) rfl rfl st3) ?_
      refine fO (B.max (n := (max (lastUse (l.take i) w) x1.Issue)) (tv (tI (lastUse (l.take i) w)) rfl) (tv (tI x1.Issue) rfl) (by simp only [Int.max_def, Int.min_def]; split <;> split <;> omega)) ?_
      refine aO (tI (max (lastUse (l.take i) w) x1.Issue)) rfl ?_
      refine VRunO.nil ?_
      refine vinB.n ?_
      refine tn ?_
      refine VRun.region ?_
      refine fO (B.add (n := (((i + 1) : Nat) : Int)) (tv (tN i) rfl) (VEv.int .i64 1) (by first | rfl | (rw [wrap64 (by omega)]; omega) | (rw [wrap64 (by omega)]; done))) ?_
      refine mO (tN (i + 1)) rfl ?_
      refine VRunO.nil ?_
      refine tn ?_
      refine ⟨(i + 1 : Nat), ?_, ?_, Wk.mk (fun k => k) ?_ ?_ ?_⟩
      · first | trivial | omega | (simp; done) | exact ⟨by omega, hI'.2⟩
      · first | omega | (simp only []; omega) | (show _ < _; omega) | (simp; omega)
      · exact (ball_cons ⟨rfl, rfl⟩ (ball_cons ⟨rfl, rfl⟩ (ball_cons ⟨(congrArg (T.int .i64) (show (max (lastUse (l.take i) w) x1.Issue) = lastUse (l.take (i + 1)) w from (by first | rfl | omega | (rw [lastUse_next hx1, luStep, if_pos fhc1]) | (rw [lastUse_next hx1, luStep, if_neg fhc1]) | (simp; done) | (push_cast; omega)))), rfl⟩ (ball_cons ⟨rfl, rfl⟩ (ball_cons ⟨rfl, rfl⟩ (ball_cons ⟨rfl, rfl⟩ (ball_nil)))))))
      · exact (ball_nil)
      · show List.Nodup ([] : List Nat)
        decide
    have fhc1 : ¬ (x1.Word = w) := of_decide_eq_false hc1
    refine sk ?_
    refine vinB.n ?_
    refine tn ?_
    refine VRun.region ?_
    refine fO (B.add (n := (((i + 1) : Nat) : Int)) (tv (tN i) rfl) (VEv.int .i64 1) (by first | rfl | (rw [wrap64 (by omega)]; omega) | (rw [wrap64 (by omega)]; done))) ?_
    refine mO (tN (i + 1)) rfl ?_
    refine VRunO.nil ?_
    refine tn ?_
    refine ⟨(i + 1 : Nat), ?_, ?_, Wk.mk (fun k => k) ?_ ?_ ?_⟩
    · first | trivial | omega | (simp; done) | exact ⟨by omega, hI'.2⟩
    · first | omega | (simp only []; omega) | (show _ < _; omega) | (simp; omega)
    · exact (ball_cons ⟨rfl, rfl⟩ (ball_cons ⟨rfl, rfl⟩ (ball_cons ⟨(congrArg (T.int .i64) (show lastUse (l.take i) w = lastUse (l.take (i + 1)) w from (by first | rfl | omega | (rw [lastUse_next hx1, luStep, if_pos fhc1]) | (rw [lastUse_next hx1, luStep, if_neg fhc1]) | (simp; done) | (push_cast; omega)))), rfl⟩ (ball_cons ⟨rfl, rfl⟩ (ball_cons ⟨rfl, rfl⟩ (ball_cons ⟨rfl, rfl⟩ (ball_nil)))))))
    · exact (ball_nil)
    · show List.Nodup ([] : List Nat)
      decide
  have fhc0 : ¬ (i < l.length) := of_decide_eq_false hc0
  refine VRun.exit ?_
  refine vthn.e ?_
  refine vthn.e ?_
  refine vinB.e ?_
  refine tn ?_
  refine sr ?_
  refine mO (tI (lastUse (l.take i) w)) rfl ?_
  refine aO (tI (lastUse (l.take i) w)) rfl ?_
  refine nt ?_
  refine rt ?_
  refine vi (n' := lastUse (l.take i) w) rfl ?_
  rw [List.take_of_length_le (by omega)]
theorem W_spec_MayUse (n : Nat) (l : List D.Used) (w : ByteArray) (n0 : Int) (g : Int) (hl : l.length ≤ mx) (hg : ∀ y ∈ l, GUsed y) : Pure (acall Try.prog (n + 3)) 89 [(rd 2 eUsed l), (tS w), (tI n0), (tI g)] (tB (decide (mayUse l w n0 g))) := by
  refine Pure.intro (rs := [ResultVar.tmp 8]) Try.func89 rfl rfl rfl (E0 := [(0, (rd 2 eUsed l)), (1, (tS w)), (2, (tI n0)), (3, (tI g))]) rfl ?_
  have hlim : lim = 1099511627776 := rfl
  have hmx : mx = 1048576 := rfl
  have hmax : maxLen = 9223372036854775807 := rfl
  have hb := lastUse_bd w hg
  refine sr ?_
  refine fO (OF.assign (VEv.bool false)) ?_
  refine nt ?_
  refine sq ?_
  refine sr ?_
  refine mO (tI n0) rfl ?_
  refine cO (cS (vc (tv (tI n0) rfl) (vc (VEv.int .i64 1) (vc (VEv.int .i64 999) VEvs.nil))) (lp rfl (lp rfl (lp rfl (LendL.nil)))) (W_spec_l1In (n + 1) n0 1 999 ) rfl rfl) ?_
  refine fO (B.not (c := (!(decide (1 ≤ n0 ∧ n0 ≤ 999)))) (tv (tB (decide (1 ≤ n0 ∧ n0 ≤ 999))) rfl) rfl) ?_
  refine mO (tB (!(decide (1 ≤ n0 ∧ n0 ≤ 999)))) rfl ?_
  refine bool_way (!(decide (1 ≤ n0 ∧ n0 ≤ 999))) (fun hg13_1 => ?_) (fun hg13_1 => ?_)
  · have fhg13_1 : ¬ (1 ≤ n0 ∧ n0 ≤ 999) := ndT hg13_1
    refine oO rfl rfl hg13_1 ?_
    refine oO rfl rfl hg13_1 ?_
    refine oO rfl rfl hg13_1 ?_
    refine fO (OF.pickT (VEv.tmpB (b := (!(decide (1 ≤ n0 ∧ n0 ≤ 999)))) rfl hg13_1) (VEv.bool true)) ?_
    refine nt ?_
    refine VRun.cond (tv (tB true) rfl) (fun hk2 => ?_) (fun hk2 => ?_)
    · skip
      refine sr ?_
      refine fO (OF.assign (VEv.bool false)) ?_
      refine nt ?_
      refine rt ?_
      refine tr ?_
      refine vb (b' := false) rfl ?_
      first | (refine decN ?_; unfold mayUse; omega) | (symm; rw [decide_eq_false_iff_not]; unfold mayUse; omega) | (symm; rw [decide_eq_true_eq]; unfold mayUse; omega)
    · exact absurd (rfl.symm.trans hk2) (by decide)
  have fhg13_1 : 1 ≤ n0 ∧ n0 ≤ 999 := ndF hg13_1
  refine gF hg13_1 rfl rfl (OF.move (tv (tI g) rfl)) ?_
  refine VRunO.chain (VWant.on (b := (!(decide (1 ≤ n0 ∧ n0 ≤ 999)))) rfl rfl hg13_1) (cS (vc (tv (tI g) rfl) (vc (VEv.int .i64 0) (vc (VEv.int .i64 999) VEvs.nil))) (lp rfl (lp rfl (lp rfl (LendL.nil)))) (W_spec_l1In (n + 1) g 0 999 ) rfl rfl) ?_
  refine gF hg13_1 rfl rfl (B.not (c := (!(decide (0 ≤ g ∧ g ≤ 999)))) (tv (tB (decide (0 ≤ g ∧ g ≤ 999))) rfl) rfl) ?_
  refine fO (OF.pickF (VEv.tmpB (b := (!(decide (1 ≤ n0 ∧ n0 ≤ 999)))) rfl hg13_1) (tv (tB (!(decide (0 ≤ g ∧ g ≤ 999)))) rfl)) ?_
  refine nt ?_
  refine VRun.cond (tv (tB (!(decide (0 ≤ g ∧ g ≤ 999)))) rfl) (fun hc0 => ?_) (fun hc0 => ?_)
  · have fhc0 : ¬ (0 ≤ g ∧ g ≤ 999) := ndT hc0
    refine sr ?_
    refine fO (OF.assign (VEv.bool false)) ?_
    refine nt ?_
    refine rt ?_
    refine tr ?_
    refine vb (b' := false) rfl ?_
    first | (refine decN ?_; unfold mayUse; omega) | (symm; rw [decide_eq_false_iff_not]; unfold mayUse; omega) | (symm; rw [decide_eq_true_eq]; unfold mayUse; omega)
  have fhc0 : 0 ≤ g ∧ g ≤ 999 := ndF hc0
  refine sk ?_
  refine tn ?_
  refine sr ?_
  refine mO (rd 2 eUsed l) rfl ?_
  refine mO (tS w) rfl ?_
  refine cO (cS (vc (tv (rd 2 eUsed l) rfl) (vc (tv (tS w) rfl) VEvs.nil)) (lp rfl (lp rfl (LendL.nil))) (W_spec_LastUse (n + 0) l w (by first | assumption | omega)) rfl rfl) ?_
  refine aO (tI (lastUse l w)) rfl ?_
  refine nt ?_
  refine sr ?_
  refine mO (tI (lastUse l w)) rfl ?_
  refine fO (B.eql (c := (decide (lastUse l w = 0))) (tv (tI (lastUse l w)) rfl) (VEv.int .i64 0) rfl) ?_
  refine mO (tB (decide (lastUse l w = 0))) rfl ?_
  refine bool_way (decide (lastUse l w = 0)) (fun hg23_3 => ?_) (fun hg23_3 => ?_)
  · have fhg23_3 : lastUse l w = 0 := of_decide_eq_true hg23_3
    refine oO rfl rfl hg23_3 ?_
    refine oO rfl rfl hg23_3 ?_
    refine oO rfl rfl hg23_3 ?_
    refine oO rfl rfl hg23_3 ?_
    refine oO rfl rfl hg23_3 ?_
    refine fO (OF.pickT (VEv.tmpB (b := (decide (lastUse l w = 0))) rfl hg23_3) (VEv.bool true)) ?_
    refine aO (tB true) rfl ?_
    refine nt ?_
    refine rt ?_
    refine vb (b' := true) rfl ?_
    first | (refine decN ?_; unfold mayUse; omega) | (symm; rw [decide_eq_false_iff_not]; unfold mayUse; omega) | (symm; rw [decide_eq_true_eq]; unfold mayUse; omega)
  have fhg23_3 : ¬ (lastUse l w = 0) := of_decide_eq_false hg23_3
  refine gF hg23_3 rfl rfl (OF.move (tv (tI (lastUse l w)) rfl)) ?_
  refine gF hg23_3 rfl rfl (OF.move (tv (tI n0) rfl)) ?_
  refine gF hg23_3 rfl rfl (OF.move (tv (tI g) rfl)) ?_
  refine gF hg23_3 rfl rfl (B.sub (n := (n0 - g)) (tv (tI n0) rfl) (tv (tI g) rfl) (by first | rfl | (rw [wrap64 (by omega)]; omega) | (rw [wrap64 (by omega)]; done))) ?_
  refine gF hg23_3 rfl rfl (B.lss (c := (decide (lastUse l w < (n0 - g)))) (tv (tI (lastUse l w)) rfl) (tv (tI (n0 - g)) rfl) rfl) ?_
  refine fO (OF.pickF (VEv.tmpB (b := (decide (lastUse l w = 0))) rfl hg23_3) (tv (tB (decide (lastUse l w < (n0 - g)))) rfl)) ?_
  refine aO (tB (decide (lastUse l w < (n0 - g)))) rfl ?_
  refine nt ?_
  refine rt ?_
  refine vb (b' := (decide (lastUse l w < (n0 - g)))) rfl ?_
  first | (refine decN ?_; unfold mayUse; omega) | (symm; rw [decide_eq_false_iff_not]; unfold mayUse; omega) | (symm; rw [decide_eq_true_eq]; unfold mayUse; omega)
theorem W_impl_MayUse (n : Nat) (l : List D.Used) (w : ByteArray) (n0 : Int) (g : Int) (hl : l.length ≤ mx) (hg : ∀ y ∈ l, GUsed y) : Pure (acall Try.prog (n + 2)) 92 [(rd 2 eUsed l), (tS w), (tI n0), (tI g)] (tB (decide (mayUse l w n0 g))) := by
  refine Pure.intro (rs := [ResultVar.tmp 8]) Try.func92 rfl rfl rfl (E0 := [(0, (rd 2 eUsed l)), (1, (tS w)), (2, (tI n0)), (3, (tI g))]) rfl ?_
  have hlim : lim = 1099511627776 := rfl
  have hmx : mx = 1048576 := rfl
  have hmax : maxLen = 9223372036854775807 := rfl
  have hb := lastUse_bd w hg
  refine sr ?_
  refine fO (OF.assign (VEv.bool false)) ?_
  refine nt ?_
  refine sr ?_
  refine mO (rd 2 eUsed l) rfl ?_
  refine mO (tS w) rfl ?_
  refine cO (cS (vc (tv (rd 2 eUsed l) rfl) (vc (tv (tS w) rfl) VEvs.nil)) (lp rfl (lp rfl (LendL.nil))) (W_impl_LastUse (n + 0) l w (by first | assumption | omega)) rfl rfl) ?_
  refine aO (tI (lastUse l w)) rfl ?_
  refine nt ?_
  refine sr ?_
  refine mO (tI n0) rfl ?_
  refine cO (cS (vc (tv (tI n0) rfl) (vc (VEv.int .i64 1) (vc (VEv.int .i64 999) VEvs.nil))) (lp rfl (lp rfl (lp rfl (LendL.nil)))) (W_impl_InRange (n + 0) n0 1 999 ) rfl rfl) ?_
  refine mO (tB (decide (1 ≤ n0 ∧ n0 ≤ 999))) rfl ?_
  refine bool_way (decide (1 ≤ n0 ∧ n0 ≤ 999)) (fun hg15_1 => ?_) (fun hg15_1 => ?_)
  · have fhg15_1 : 1 ≤ n0 ∧ n0 ≤ 999 := of_decide_eq_true hg15_1
    refine gF hg15_1 rfl rfl (OF.move (tv (tI g) rfl)) ?_
    refine VRunO.chain (VWant.on (b := (decide (1 ≤ n0 ∧ n0 ≤ 999))) rfl rfl hg15_1) (cS (vc (tv (tI g) rfl) (vc (VEv.int .i64 0) (vc (VEv.int .i64 999) VEvs.nil))) (lp rfl (lp rfl (lp rfl (LendL.nil)))) (W_impl_InRange (n + 0) g 0 999 ) rfl rfl) ?_
    refine fO (OF.pickT (VEv.tmpB (b := (decide (1 ≤ n0 ∧ n0 ≤ 999))) rfl hg15_1) (tv (tB (decide (0 ≤ g ∧ g ≤ 999))) rfl)) ?_
    refine mO (tB (decide (0 ≤ g ∧ g ≤ 999))) rfl ?_
    refine bool_way (decide (0 ≤ g ∧ g ≤ 999)) (fun hg19_2 => ?_) (fun hg19_2 => ?_)
    · have fhg19_2 : 0 ≤ g ∧ g ≤ 999 := of_decide_eq_true hg19_2
      refine gF hg19_2 rfl rfl (OF.move (tv (tI (lastUse l w)) rfl)) ?_
      refine gF hg19_2 rfl rfl (B.eql (c := (decide (lastUse l w = 0))) (tv (tI (lastUse l w)) rfl) (VEv.int .i64 0) rfl) ?_
      refine gF hg19_2 rfl rfl (OF.move (tv (tB (decide (lastUse l w = 0))) rfl)) ?_
      refine bool_way (decide (lastUse l w = 0)) (fun hg22_3 => ?_) (fun hg22_3 => ?_)
      · have fhg22_3 : lastUse l w = 0 := of_decide_eq_true hg22_3
        refine oO rfl rfl hg22_3 ?_
        refine oO rfl rfl hg22_3 ?_
        refine oO rfl rfl hg22_3 ?_
        refine oO rfl rfl hg22_3 ?_
        refine oO rfl rfl hg22_3 ?_
        refine gF hg19_2 rfl rfl (OF.pickT (VEv.tmpB (b := (decide (lastUse l w = 0))) rfl hg22_3) (VEv.bool true)) ?_
        refine fO (OF.pickT (VEv.tmpB (b := (decide (0 ≤ g ∧ g ≤ 999))) rfl hg19_2) (tv (tB true) rfl)) ?_
        refine aO (tB true) rfl ?_
        refine nt ?_
        refine rt ?_
        refine vb (b' := true) rfl ?_
        first | (refine decN ?_; unfold mayUse; omega) | (symm; rw [decide_eq_false_iff_not]; unfold mayUse; omega) | (symm; rw [decide_eq_true_eq]; unfold mayUse; omega)
      have fhg22_3 : ¬ (lastUse l w = 0) := of_decide_eq_false hg22_3
      refine gF hg22_3 rfl rfl (OF.move (tv (tI n0) rfl)) ?_
      refine gF hg22_3 rfl rfl (OF.move (tv (tI (lastUse l w)) rfl)) ?_
      refine gF hg22_3 rfl rfl (B.sub (n := (n0 - lastUse l w)) (tv (tI n0) rfl) (tv (tI (lastUse l w)) rfl) (by first | rfl | (rw [wrap64 (by omega)]; omega) | (rw [wrap64 (by omega)]; done))) ?_
      refine gF hg22_3 rfl rfl (OF.move (tv (tI g) rfl)) ?_
      refine gF hg22_3 rfl rfl (B.gtr (c := (decide (g < (n0 - lastUse l w)))) (tv (tI (n0 - lastUse l w)) rfl) (tv (tI g) rfl) rfl) ?_
      refine gF hg19_2 rfl rfl (OF.pickF (VEv.tmpB (b := (decide (lastUse l w = 0))) rfl hg22_3) (tv (tB (decide (g < (n0 - lastUse l w)))) rfl)) ?_
      refine fO (OF.pickT (VEv.tmpB (b := (decide (0 ≤ g ∧ g ≤ 999))) rfl hg19_2) (tv (tB (decide (g < (n0 - lastUse l w)))) rfl)) ?_
      refine aO (tB (decide (g < (n0 - lastUse l w)))) rfl ?_
      refine nt ?_
      refine rt ?_
      refine vb (b' := (decide (g < (n0 - lastUse l w)))) rfl ?_
      first | (refine decN ?_; unfold mayUse; omega) | (symm; rw [decide_eq_false_iff_not]; unfold mayUse; omega) | (symm; rw [decide_eq_true_eq]; unfold mayUse; omega)
    have fhg19_2 : ¬ (0 ≤ g ∧ g ≤ 999) := of_decide_eq_false hg19_2
    refine oO rfl rfl hg19_2 ?_
    refine oO rfl rfl hg19_2 ?_
    refine oO rfl rfl hg19_2 ?_
    refine uO rfl rfl ?_
    refine uO rfl rfl ?_
    refine uO rfl rfl ?_
    refine uO rfl rfl ?_
    refine uO rfl rfl ?_
    refine oO rfl rfl hg19_2 ?_
    refine fO (OF.pickF (VEv.tmpB (b := (decide (0 ≤ g ∧ g ≤ 999))) rfl hg19_2) (VEv.bool false)) ?_
    refine aO (tB false) rfl ?_
    refine nt ?_
    refine rt ?_
    refine vb (b' := false) rfl ?_
    first | (refine decN ?_; unfold mayUse; omega) | (symm; rw [decide_eq_false_iff_not]; unfold mayUse; omega) | (symm; rw [decide_eq_true_eq]; unfold mayUse; omega)
  have fhg15_1 : ¬ (1 ≤ n0 ∧ n0 ≤ 999) := of_decide_eq_false hg15_1
  refine oO rfl rfl hg15_1 ?_
  refine oO rfl rfl hg15_1 ?_
  refine fO (OF.pickF (VEv.tmpB (b := (decide (1 ≤ n0 ∧ n0 ≤ 999))) rfl hg15_1) (VEv.bool false)) ?_
  refine mO (tB false) rfl ?_
  refine VRunO.off (VWant.not (b := false) rfl rfl rfl) ?_
  refine VRunO.off (VWant.not (b := false) rfl rfl rfl) ?_
  refine VRunO.off (VWant.not (b := false) rfl rfl rfl) ?_
  refine uO rfl rfl ?_
  refine uO rfl rfl ?_
  refine uO rfl rfl ?_
  refine uO rfl rfl ?_
  refine uO rfl rfl ?_
  refine VRunO.off (VWant.not (b := false) rfl rfl rfl) ?_
  refine fO (OF.pickF (tv (tB false) rfl) (VEv.bool false)) ?_
  refine aO (tB false) rfl ?_
  refine nt ?_
  refine rt ?_
  refine vb (b' := false) rfl ?_
  first | (refine decN ?_; unfold mayUse; omega) | (symm; rw [decide_eq_false_iff_not]; unfold mayUse; omega) | (symm; rw [decide_eq_true_eq]; unfold mayUse; omega)
theorem W_spec_TooSoon (n : Nat) (l : List D.Used) (ws : List ByteArray) (n0 : Int) (g : Int) (hl : l.length ≤ mx) (hg : ∀ y ∈ l, GUsed y) (hw : ws.length ≤ mx) : Pure (acall Try.prog (n + 4)) 26 [(rd 2 eUsed l), (rd 1 eStr ws), (tI n0), (tI g)] (T.sl true 1 ((tooSoon l ws n0 g).map (eStr true))) := by
  refine Pure.intro (rs := [ResultVar.tmp 8]) Try.func26 rfl rfl rfl (E0 := [(0, (rd 2 eUsed l)), (1, (rd 1 eStr ws)), (2, (tI n0)), (3, (tI g))]) rfl ?_
  have hlim : lim = 1099511627776 := rfl
  have hmx : mx = 1048576 := rfl
  have hmax : maxLen = 9223372036854775807 := rfl
  refine sr ?_
  refine fO (OF.assign VEv.nils) ?_
  refine nt ?_
  refine sr ?_
  refine kO (OM.slice0 Try.underlying36 zo9 (by kernel_rfl) rfl (by rw [sz9]; decide) sz9) ?_
  refine aO (T.os 1 0 0 0) rfl ?_
  refine nt ?_
  refine sq ?_
  refine sr ?_
  refine fO (OF.assign (VEv.int .i64 0)) ?_
  refine nt ?_
  refine VRun.block ?_
  have he1 : [] = ((tooSoon l (ws.take 0) n0 g).map (eStr true)) := by first | rfl | (rw [tooSoon_next hx1, if_pos fhc1, List.append_nil]) | (rw [tooSoon_next hx1, if_neg fhc1]) | (simp; done) | omega
  refine VRun.loop (A := Nat) (fun s_ => [(0, (rd 2 eUsed l)), (1, (rd 1 eStr ws)), (2, (tI n0)), (3, (tI g)), (8, T.nils), (9, (T.os 1 0 0 (((tooSoon l (ws.take s_) n0 g).map (eStr true)).length))), (10, (tN s_))]) (fun s_ => mkO [(0, (Obj.rows 1 ((tooSoon l (ws.take s_) n0 g).map (eStr true))))]) 1 (fun s_ => s_ ≤ ws.length) (fun s_ => ws.length - s_) (0 : Nat) ?_ (Wk.mk (fun k => k) ?_ ?_ ?_) ?_
  · first | trivial | (simp; done) | omega | (constructor <;> simp)
  · exact (ball_cons ⟨rfl, rfl⟩ (ball_cons ⟨rfl, rfl⟩ (ball_cons ⟨rfl, rfl⟩ (ball_cons ⟨rfl, rfl⟩ (ball_cons ⟨rfl, rfl⟩ (ball_cons ⟨(congrArg (fun n_ => T.os 1 0 0 n_) (show 0 = ((tooSoon l (ws.take 0) n0 g).map (eStr true)).length from (by first | rfl | (simp only [List.length_map]; omega) | (simp only [List.length_map, List.length_set, List.length_append, List.length_take, List.length_replicate, List.length_cons, List.length_nil]; omega)))), rfl⟩ (ball_cons ⟨rfl, rfl⟩ (ball_nil))))))))
  · exact (ball_cons ⟨(congrArg (fun l_ => some (Obj.rows 1 l_)) he1), (Nat.le_of_ble_eq_true rfl), rfl⟩ (ball_nil))
  · show List.Nodup ([0] : List Nat)
    decide
  rintro i hI
  have hI' : i ≤ ws.length := hI
  clear hI
  show VRun _ _ _ [(0, (rd 2 eUsed l)), (1, (rd 1 eStr ws)), (2, (tI n0)), (3, (tI g)), (8, T.nils), (9, (T.os 1 0 0 (((tooSoon l (ws.take i) n0 g).map (eStr true)).length))), (10, (tN i))] (mkO [(0, (Obj.rows 1 ((tooSoon l (ws.take i) n0 g).map (eStr true))))]) 1 _
  have hI1 := hI'
  have hI2 := tooSoon_len l (ws.take i) n0 g
  have hI3 : (ws.take i).length ≤ ws.length := by rw [List.length_take]; omega
  refine sq ?_
  refine sr ?_
  refine mO (tN i) rfl ?_
  refine mO (rd 1 eStr ws) rfl ?_
  refine lO (B.lenR (m := ws.length) (tv (rd 1 eStr ws) rfl) Try.underlying36 (List.length_map ..)) ?_
  refine fO (B.lss (c := (decide (i < ws.length))) (tv (tN i) rfl) (tv (tN ws.length) rfl) (by first | (exact decN (by omega)))) ?_
  refine nt ?_
  refine VRun.cond (tv (tB (decide (i < ws.length))) rfl) (fun hc0 => ?_) (fun hc0 => ?_)
  · have fhc0 : i < ws.length := of_decide_eq_true hc0
    refine sk ?_
    refine tn ?_
    refine sq ?_
    refine VRun.block ?_
    refine sr ?_
    refine mO (rd 2 eUsed l) rfl ?_
    refine mO (rd 1 eStr ws) rfl ?_
    refine mO (tN i) rfl ?_
    obtain ⟨x1, hx1⟩ : ∃ x, ws[i]? = some x := ⟨_, List.getElem?_eq_getElem (by first | omega)⟩
    refine fO (OF.indexAddrR (row := (eStr false x1)) (i := i) (tv (rd 1 eStr ws) rfl) (tv (tN i) rfl) rfl (map_at _ hx1) Try.underlying36 sz9 if9) ?_
    refine lO (OL.loadR1 (t := (tS x1)) (tv (T.rp [(tS x1)]) rfl) rfl st9) ?_
    refine mO (tI n0) rfl ?_
    refine mO (tI g) rfl ?_
    refine cO (cS (vc (tv (rd 2 eUsed l) rfl) (vc (tv (tS x1) rfl) (vc (tv (tI n0) rfl) (vc (tv (tI g) rfl) VEvs.nil)))) (lp rfl (lp rfl (lp rfl (lp rfl (LendL.nil))))) (W_spec_MayUse (n + 0) l x1 n0 g (by first | assumption | omega) (by first | assumption | omega)) rfl rfl) ?_
    refine fO (B.not (c := (!(decide (mayUse l x1 n0 g)))) (tv (tB (decide (mayUse l x1 n0 g))) rfl) rfl) ?_
    refine nt ?_
    refine VRun.cond (tv (tB (!(decide (mayUse l x1 n0 g)))) rfl) (fun hc1 => ?_) (fun hc1 => ?_)
    · have fhc1 : ¬ (mayUse l x1 n0 g) := ndT hc1
      refine VRun.region ?_
      refine mO (T.os 1 0 0 (((tooSoon l (ws.take i) n0 g).map (eStr true)).length)) rfl ?_
      refine mO (rd 1 eStr ws) rfl ?_
      refine mO (tN i) rfl ?_
      refine fO (OF.indexAddrR (row := (eStr false x1)) (i := i) (tv (rd 1 eStr ws) rfl) (tv (tN i) rfl) rfl (map_at _ hx1) Try.underlying36 sz9 if9) ?_
      refine lO (OL.loadR1 (t := (tS x1)) (tv (T.rp [(tS x1)]) rfl) rfl st9) ?_
      refine kO (OM.buildSlice (l := [(tS x1)]) (VEvp.cons (tv (tS x1) rfl) VEvp.nil) rfl (by decide) (ball_cons (nofun) (ball_nil)) (ball_cons ((ball_cons (rfl) (ball_nil))) (ball_nil)) (ball_cons (rfl) (ball_nil)) Try.underlying36 zo9 (by kernel_rfl) rfl (by rw [sz9]; decide) sz9 (Nat.le_of_ble_eq_true rfl)) ?_
      refine cO (B.append (rows := ((tooSoon l (ws.take i) n0 g).map (eStr true))) (rows2 := [[(tS x1)]]) (rows3 := ((tooSoon l (ws.take i) n0 g ++ [x1]).map (eStr true))) (VDst.own (tv (T.os 1 0 0 (((tooSoon l (ws.take i) n0 g).map (eStr true)).length)) rfl) rfl rfl) (VSrc.own (tv (T.os 1 1 0 1) rfl) rfl rfl Try.underlying36 (ball_cons (ball_cons rfl (ball_nil)) (ball_nil))) (by decide) Try.underlying36 sz9 (by decide) zo9 rfl (of_decide_eq_true (by kernel_rfl)) (by first | omega | (simp only [List.length_map]; omega) | (simp only [List.length_map, List.length_append, List.length_cons, List.length_nil, List.length_replicate, List.length_set, List.length_drop, List.length_take, lim] at *; omega)) ((List.map_append (f := eStr true) (l₁ := tooSoon l (ws.take i) n0 g) (l₂ := [x1])).symm)) ?_
      refine aO (T.os 1 2 0 (((tooSoon l (ws.take i) n0 g ++ [x1]).map (eStr true)).length)) rfl ?_
      refine VRunO.nil ?_
      refine vinB.n ?_
      refine tn ?_
      refine VRun.region ?_
      refine mO (tN i) rfl ?_
      refine fO (B.add (n := (((i + 1) : Nat) : Int)) (tv (tN i) rfl) (VEv.int .i64 1) (by first | rfl | (rw [wrap64 (by omega)]; omega) | (rw [wrap64 (by omega)]; done))) ?_
      refine aO (tN (i + 1)) rfl ?_
      refine VRunO.nil ?_
      refine tn ?_
      have he2 : (tooSoon l (ws.take i) n0 g ++ [x1]) = tooSoon l (ws.take (i + 1)) n0 g := by first | rfl | (rw [tooSoon_next hx1, if_pos fhc1, List.append_nil]) | (rw [tooSoon_next hx1, if_neg fhc1]) | (simp; done) | omega
      refine ⟨(i + 1 : Nat), ?_, ?_, Wk.mk (fun k => if k = 0 then 2 else  k) ?_ ?_ ?_⟩
      · first | trivial | omega | (simp; done) | exact ⟨by omega, hI'.2⟩
      · first | omega | (simp only []; omega) | (show _ < _; omega) | (simp; omega)
      · exact (ball_cons ⟨rfl, rfl⟩ (ball_cons ⟨rfl, rfl⟩ (ball_cons ⟨rfl, rfl⟩ (ball_cons ⟨rfl, rfl⟩ (ball_cons ⟨rfl, rfl⟩ (ball_cons ⟨(congrArg (fun l_ => T.os 1 2 0 (List.map (eStr true) l_).length) he2), rfl⟩ (ball_cons ⟨rfl, rfl⟩ (ball_nil))))))))
      · exact (ball_cons ⟨(congrArg (fun l_ => some (Obj.rows 1 (List.map (eStr true) l_))) he2), (Nat.le_of_ble_eq_true rfl), rfl⟩ (ball_nil))
      · show List.Nodup ([2] : List Nat)
        decide
    have fhc1 : mayUse l x1 n0 g := ndF hc1
    refine sk ?_
    refine vinB.n ?_
    refine tn ?_
    refine VRun.region ?_
    refine mO (tN i) rfl ?_
    refine fO (B.add (n := (((i + 1) : Nat) : Int)) (tv (tN i) rfl) (VEv.int .i64 1) (by first | rfl | (rw [wrap64 (by omega)]; omega) | (rw [wrap64 (by omega)]; done))) ?_
    refine aO (tN (i + 1)) rfl ?_
    refine VRunO.nil ?_
    refine tn ?_
    have he3 : tooSoon l (ws.take i) n0 g = tooSoon l (ws.take (i + 1)) n0 g := by first | rfl | (rw [tooSoon_next hx1, if_pos fhc1, List.append_nil]) | (rw [tooSoon_next hx1, if_neg fhc1]) | (simp; done) | omega
    refine ⟨(i + 1 : Nat), ?_, ?_, Wk.mk (fun k => k) ?_ ?_ ?_⟩
    · first | trivial | omega | (simp; done) | exact ⟨by omega, hI'.2⟩
    · first | omega | (simp only []; omega) | (show _ < _; omega) | (simp; omega)
    · exact (ball_cons ⟨rfl, rfl⟩ (ball_cons ⟨rfl, rfl⟩ (ball_cons ⟨rfl, rfl⟩ (ball_cons ⟨rfl, rfl⟩ (ball_cons ⟨rfl, rfl⟩ (ball_cons ⟨(congrArg (fun l_ => T.os 1 0 0 (List.map (eStr true) l_).length) he3), rfl⟩ (ball_cons ⟨rfl, rfl⟩ (ball_nil))))))))
    · exact (ball_cons ⟨(congrArg (fun l_ => some (Obj.rows 1 (List.map (eStr true) l_))) he3), (Nat.le_of_ble_eq_true rfl), rfl⟩ (ball_nil))
    · show List.Nodup ([0] : List Nat)
      decide
  have fhc0 : ¬ (i < ws.length) := of_decide_eq_false hc0
  refine VRun.exit ?_
  refine vthn.e ?_
  refine vthn.e ?_
  refine vinB.e ?_
  refine tn ?_
  refine sr ?_
  refine mO (T.os 1 0 0 (((tooSoon l (ws.take i) n0 g).map (eStr true)).length)) rfl ?_
  refine aO (T.os 1 0 0 (((tooSoon l (ws.take i) n0 g).map (eStr true)).length)) rfl ?_
  refine nt ?_
  refine rt ?_
  refine vfin.eq (r' := (T.sl true 1 ((tooSoon l (ws.take i) n0 g).map (eStr true)))) ?_ (vfin.r (VRes.tmp (t := (T.os 1 0 0 (((tooSoon l (ws.take i) n0 g).map (eStr true)).length))) rfl VRes.nil) (Give.os rfl rfl (okStr.cleanMap _)))
  show (T.sl true 1 ((tooSoon l (ws.take i) n0 g).map (eStr true))) = (T.sl true 1 ((tooSoon l ws n0 g).map (eStr true)))
  refine congrArg (fun l_ => T.sl true 1 (List.map (eStr true) l_)) ?_
  rw [List.take_of_length_le (by omega)]
theorem W_impl_TooSoon_1 (n : Nat) (w : ByteArray) (l : List D.Used) (n0 : Int) (g : Int) (hl : l.length ≤ mx) (hg : ∀ y ∈ l, GUsed y) : Pure (acall Try.prog (n + 3)) 91 [(tS w), (T.rp [(rd 2 eUsed l)]), (T.rp [(tI n0)]), (T.rp [(tI g)])] (tB (!decide (mayUse l w n0 g))) := by
  refine Pure.intro (rs := [ResultVar.tmp 5]) Try.func91 rfl rfl rfl (E0 := [(0, (tS w)), (1, (T.rp [(rd 2 eUsed l)])), (2, (T.rp [(tI n0)])), (3, (T.rp [(tI g)]))]) rfl ?_
  have hlim : lim = 1099511627776 := rfl
  have hmx : mx = 1048576 := rfl
  have hmax : maxLen = 9223372036854775807 := rfl
  refine sr ?_
  refine fO (OF.assign (VEv.bool false)) ?_
  refine nt ?_
  refine sr ?_
  refine lO (OL.loadR1 (t := (rd 2 eUsed l)) (tv (T.rp [(rd 2 eUsed l)]) rfl) rfl st25) ?_
  refine mO (tS w) rfl ?_
  refine lO (OL.loadR1 (t := (tI n0)) (tv (T.rp [(tI n0)]) rfl) rfl st3) ?_
  refine lO (OL.loadR1 (t := (tI g)) (tv (T.rp [(tI g)]) rfl) rfl st3) ?_
  refine cO (cS (vc (tv (rd 2 eUsed l) rfl) (vc (tv (tS w) rfl) (vc (tv (tI n0) rfl) (vc (tv (tI g) rfl) VEvs.nil)))) (lp rfl (lp rfl (lp rfl (lp rfl (LendL.nil))))) (W_impl_MayUse (n + 0) l w n0 g (by first | assumption | omega) (by first | assumption | omega)) rfl rfl) ?_
  refine fO (B.not (c := (!(decide (mayUse l w n0 g)))) (tv (tB (decide (mayUse l w n0 g))) rfl) rfl) ?_
  refine aO (tB (!(decide (mayUse l w n0 g)))) rfl ?_
  refine nt ?_
  refine rt ?_
  refine vb (b' := (!(decide (mayUse l w n0 g)))) rfl ?_
  first | rfl | (exact decN (by omega)) | (symm; rw [decide_eq_false_iff_not]; omega) | (symm; rw [decide_eq_true_eq]; omega) | (simp_all; done)
theorem W_impl_those_impl_TooSoon_1 (n : Nat) (ws : List ByteArray) (l : List D.Used) (n0 : Int) (g : Int) (hl : l.length ≤ mx) (hg : ∀ y ∈ l, GUsed y) (hw : ws.length ≤ mx) : Pure (acall Try.prog (n + 4)) 90 [(rd 1 eStr ws), (T.fn 91 [(T.rp [(rd 2 eUsed l)]), (T.rp [(tI n0)]), (T.rp [(tI g)])])] (T.sl true 1 ((tooSoon l ws n0 g).map (eStr true))) := by
  refine Pure.intro (rs := [ResultVar.tmp 4]) Try.func90 rfl rfl rfl (E0 := [(0, (rd 1 eStr ws)), (1, (T.fn 91 [(T.rp [(rd 2 eUsed l)]), (T.rp [(tI n0)]), (T.rp [(tI g)])]))]) rfl ?_
  have hlim : lim = 1099511627776 := rfl
  have hmx : mx = 1048576 := rfl
  have hmax : maxLen = 9223372036854775807 := rfl
  refine sr ?_
  refine fO (OF.assign VEv.nils) ?_
  refine nt ?_
  refine sr ?_
  refine fO (OF.assign VEv.nils) ?_
  refine nt ?_
  refine sq ?_
  refine sr ?_
  refine mO (rd 1 eStr ws) rfl ?_
  refine lO (B.lenR (m := ws.length) (tv (rd 1 eStr ws) rfl) Try.underlying36 (List.length_map ..)) ?_
  refine fO (OF.move (VEv.int .i64 0)) ?_
  refine nt ?_
  refine VRun.block ?_
  refine VRun.wk (Wk.phantom 5 1 rfl) ?_
  have he1 : [] = ((tooSoon l (ws.take 0) n0 g).map (eStr true)) := by first | rfl | (rw [tooSoon_next hx1, if_pos q1, List.append_nil]) | (rw [tooSoon_next hx1, if_neg q1]) | (simp; done) | omega
  refine VRun.loop (A := Nat) (fun s_ => [(1, (T.fn 91 [(T.rp [(rd 2 eUsed l)]), (T.rp [(tI n0)]), (T.rp [(tI g)])])), (4, T.nils), (5, (T.os 1 0 0 (((tooSoon l (ws.take s_) n0 g).map (eStr true)).length))), (8, (rd 1 eStr ws)), (9, (tN ws.length)), (10, (tN s_))]) (fun s_ => mkO [(0, (Obj.rows 1 ((tooSoon l (ws.take s_) n0 g).map (eStr true))))]) 1 (fun s_ => s_ ≤ ws.length) (fun s_ => ws.length - s_) (0 : Nat) ?_ (Wk.mk (fun k => k) ?_ ?_ ?_) ?_
  · first | trivial | (simp; done) | omega | (constructor <;> simp)
  · exact (ball_cons ⟨rfl, rfl⟩ (ball_cons ⟨rfl, rfl⟩ (ball_cons ⟨(congrArg (fun n_ => T.os 1 0 0 n_) (show 0 = ((tooSoon l (ws.take 0) n0 g).map (eStr true)).length from (by first | rfl | (simp only [List.length_map]; omega) | (simp only [List.length_map, List.length_set, List.length_append, List.length_take, List.length_replicate, List.length_cons, List.length_nil]; omega)))), rfl⟩ (ball_cons ⟨rfl, rfl⟩ (ball_cons ⟨rfl, rfl⟩ (ball_cons ⟨rfl, rfl⟩ (ball_nil)))))))
  · exact (ball_cons ⟨(congrArg (fun l_ => some (Obj.rows 1 l_)) he1), (Nat.le_of_ble_eq_true rfl), rfl⟩ (ball_nil))
  · show List.Nodup ([0] : List Nat)
    decide
  rintro i hI
  have hI' : i ≤ ws.length := hI
  clear hI
  show VRun _ _ _ [(1, (T.fn 91 [(T.rp [(rd 2 eUsed l)]), (T.rp [(tI n0)]), (T.rp [(tI g)])])), (4, T.nils), (5, (T.os 1 0 0 (((tooSoon l (ws.take i) n0 g).map (eStr true)).length))), (8, (rd 1 eStr ws)), (9, (tN ws.length)), (10, (tN i))] (mkO [(0, (Obj.rows 1 ((tooSoon l (ws.take i) n0 g).map (eStr true))))]) 1 _
  have hI1 := hI'
  have hI2 := tooSoon_len l (ws.take i) n0 g
  have hI3 : (ws.take i).length ≤ ws.length := by rw [List.length_take]; omega
  refine sr ?_
  refine fO (B.lss (c := (decide (i < ws.length))) (tv (tN i) rfl) (tv (tN ws.length) rfl) (by first | (exact decN (by omega)))) ?_
  refine nt ?_
  refine sq ?_
  refine VRun.cond (tv (tB (decide (i < ws.length))) rfl) (fun hc0 => ?_) (fun hc0 => ?_)
  · have fhc0 : i < ws.length := of_decide_eq_true hc0
    refine sk ?_
    refine tn ?_
    refine sq ?_
    refine VRun.block ?_
    refine sr ?_
    obtain ⟨x1, hx1⟩ : ∃ x, ws[i]? = some x := ⟨_, List.getElem?_eq_getElem (by first | omega)⟩
    refine fO (OF.indexAddrR (row := (eStr false x1)) (i := i) (tv (rd 1 eStr ws) rfl) (tv (tN i) rfl) rfl (map_at _ hx1) Try.underlying36 sz9 if9) ?_
    refine lO (OL.loadR1 (t := (tS x1)) (tv (T.rp [(tS x1)]) rfl) rfl st9) ?_
    refine aO (tS x1) rfl ?_
    refine nt ?_
    refine sr ?_
    refine mO (T.fn 91 [(T.rp [(rd 2 eUsed l)]), (T.rp [(tI n0)]), (T.rp [(tI g)])]) rfl ?_
    refine mO (tS x1) rfl ?_
    refine cO (OC.callv (us := [(tS x1)]) (ucaps := [(T.rp [(rd 2 eUsed l)]), (T.rp [(tI n0)]), (T.rp [(tI g)])]) (r := (tB (!decide (mayUse l x1 n0 g)))) (r' := (tB (!decide (mayUse l x1 n0 g)))) (objs := []) rfl rfl (vc (tv (tS x1) rfl) VEvs.nil) (lp rfl (LendL.nil)) (lp rfl (lp rfl (lp rfl (LendL.nil)))) (W_impl_TooSoon_1 (n + 0) x1 l n0 g (by first | assumption | omega) (by first | assumption | omega)) rfl) ?_
    refine nt ?_
    refine VRun.cond (tv (tB (!decide (mayUse l x1 n0 g))) rfl) (fun hc1 => ?_) (fun hc1 => ?_)
    · have fhc1 : (!decide (mayUse l x1 n0 g)) = true := hc1
      have q1 : ¬ mayUse l x1 n0 g := by simpa using fhc1
      refine VRun.region ?_
      refine mO (T.os 1 0 0 (((tooSoon l (ws.take i) n0 g).map (eStr true)).length)) rfl ?_
      refine mO (tS x1) rfl ?_
      refine kO (OM.buildSlice (l := [(tS x1)]) (VEvp.cons (tv (tS x1) rfl) VEvp.nil) rfl (by decide) (ball_cons (nofun) (ball_nil)) (ball_cons ((ball_cons (rfl) (ball_nil))) (ball_nil)) (ball_cons (rfl) (ball_nil)) Try.underlying36 zo9 (by kernel_rfl) rfl (by rw [sz9]; decide) sz9 (Nat.le_of_ble_eq_true rfl)) ?_
      refine cO (B.append (rows := ((tooSoon l (ws.take i) n0 g).map (eStr true))) (rows2 := [[(tS x1)]]) (rows3 := ((tooSoon l (ws.take i) n0 g ++ [x1]).map (eStr true))) (VDst.own (tv (T.os 1 0 0 (((tooSoon l (ws.take i) n0 g).map (eStr true)).length)) rfl) rfl rfl) (VSrc.own (tv (T.os 1 1 0 1) rfl) rfl rfl Try.underlying36 (ball_cons (ball_cons rfl (ball_nil)) (ball_nil))) (by decide) Try.underlying36 sz9 (by decide) zo9 rfl (of_decide_eq_true (by kernel_rfl)) (by first | omega | (simp only [List.length_map]; omega) | (simp only [List.length_map, List.length_append, List.length_cons, List.length_nil, List.length_replicate, List.length_set, List.length_drop, List.length_take, lim] at *; omega)) ((List.map_append (f := eStr true) (l₁ := tooSoon l (ws.take i) n0 g) (l₂ := [x1])).symm)) ?_
      refine aO (T.os 1 2 0 (((tooSoon l (ws.take i) n0 g ++ [x1]).map (eStr true)).length)) rfl ?_
      refine VRunO.nil ?_
      refine vinB.n ?_
      refine tn ?_
      refine VRun.region ?_
      refine fO (B.add (n := (((i + 1) : Nat) : Int)) (tv (tN i) rfl) (VEv.int .i64 1) (by first | rfl | (rw [wrap64 (by omega)]; omega) | (rw [wrap64 (by omega)]; done))) ?_
      refine mO (tN (i + 1)) rfl ?_
      refine VRunO.nil ?_
      refine tn ?_
      have he2 : (tooSoon l (ws.take i) n0 g ++ [x1]) = tooSoon l (ws.take (i + 1)) n0 g := by first | rfl | (rw [tooSoon_next hx1, if_pos q1, List.append_nil]) | (rw [tooSoon_next hx1, if_neg q1]) | (simp; done) | omega
      refine ⟨(i + 1 : Nat), ?_, ?_, Wk.mk (fun k => if k = 0 then 2 else  k) ?_ ?_ ?_⟩
      · first | trivial | omega | (simp; done) | exact ⟨by omega, hI'.2⟩
      · first | omega | (simp only []; omega) | (show _ < _; omega) | (simp; omega)
      · exact (ball_cons ⟨rfl, rfl⟩ (ball_cons ⟨rfl, rfl⟩ (ball_cons ⟨(congrArg (fun l_ => T.os 1 2 0 (List.map (eStr true) l_).length) he2), rfl⟩ (ball_cons ⟨rfl, rfl⟩ (ball_cons ⟨rfl, rfl⟩ (ball_cons ⟨rfl, rfl⟩ (ball_nil)))))))
      · exact (ball_cons ⟨(congrArg (fun l_ => some (Obj.rows 1 (List.map (eStr true) l_))) he2), (Nat.le_of_ble_eq_true rfl), rfl⟩ (ball_nil))
      · show List.Nodup ([2] : List Nat)
        decide
    have fhc1 : (!decide (mayUse l x1 n0 g)) = false := hc1
    have q1 : mayUse l x1 n0 g := by simpa using fhc1
    refine sk ?_
    refine vinB.n ?_
    refine tn ?_
    refine VRun.region ?_
    refine fO (B.add (n := (((i + 1) : Nat) : Int)) (tv (tN i) rfl) (VEv.int .i64 1) (by first | rfl | (rw [wrap64 (by omega)]; omega) | (rw [wrap64 (by omega)]; done))) ?_
    refine mO (tN (i + 1)) rfl ?_
    refine VRunO.nil ?_
    refine tn ?_
    have he3 : tooSoon l (ws.take i) n0 g = tooSoon l (ws.take (i + 1)) n0 g := by first | rfl | (rw [tooSoon_next hx1, if_pos q1, List.append_nil]) | (rw [tooSoon_next hx1, if_neg q1]) | (simp; done) | omega
    refine ⟨(i + 1 : Nat), ?_, ?_, Wk.mk (fun k => k) ?_ ?_ ?_⟩
    · first | trivial | omega | (simp; done) | exact ⟨by omega, hI'.2⟩
    · first | omega | (simp only []; omega) | (show _ < _; omega) | (simp; omega)
    · exact (ball_cons ⟨rfl, rfl⟩ (ball_cons ⟨rfl, rfl⟩ (ball_cons ⟨(congrArg (fun l_ => T.os 1 0 0 (List.map (eStr true) l_).length) he3), rfl⟩ (ball_cons ⟨rfl, rfl⟩ (ball_cons ⟨rfl, rfl⟩ (ball_cons ⟨rfl, rfl⟩ (ball_nil)))))))
    · exact (ball_cons ⟨(congrArg (fun l_ => some (Obj.rows 1 (List.map (eStr true) l_))) he3), (Nat.le_of_ble_eq_true rfl), rfl⟩ (ball_nil))
    · show List.Nodup ([0] : List Nat)
      decide
  have fhc0 : ¬ (i < ws.length) := of_decide_eq_false hc0
  refine VRun.exit ?_
  refine vthn.e ?_
  refine vthn.e ?_
  refine vinB.e ?_
  refine tn ?_
  refine sr ?_
  refine mO (T.os 1 0 0 (((tooSoon l (ws.take i) n0 g).map (eStr true)).length)) rfl ?_
  refine aO (T.os 1 0 0 (((tooSoon l (ws.take i) n0 g).map (eStr true)).length)) rfl ?_
  refine nt ?_
  refine rt ?_
  refine vfin.eq (r' := (T.sl true 1 ((tooSoon l (ws.take i) n0 g).map (eStr true)))) ?_ (vfin.r (VRes.tmp (t := (T.os 1 0 0 (((tooSoon l (ws.take i) n0 g).map (eStr true)).length))) rfl VRes.nil) (Give.os rfl rfl (okStr.cleanMap _)))
  show (T.sl true 1 ((tooSoon l (ws.take i) n0 g).map (eStr true))) = (T.sl true 1 ((tooSoon l ws n0 g).map (eStr true)))
  refine congrArg (fun l_ => T.sl true 1 (List.map (eStr true) l_)) ?_
  rw [List.take_of_length_le (by omega)]
theorem W_impl_TooSoon (n : Nat) (l : List D.Used) (ws : List ByteArray) (n0 : Int) (g : Int) (hl : l.length ≤ mx) (hg : ∀ y ∈ l, GUsed y) (hw : ws.length ≤ mx) : Pure (acall Try.prog (n + 5)) 28 [(rd 2 eUsed l), (rd 1 eStr ws), (tI n0), (tI g)] (T.sl true 1 ((tooSoon l ws n0 g).map (eStr true))) := by
  refine Pure.intro (rs := [ResultVar.tmp 8]) Try.func28 rfl rfl rfl (E0 := [(0, (rd 2 eUsed l)), (1, (rd 1 eStr ws)), (2, (tI n0)), (3, (tI g))]) rfl ?_
  have hlim : lim = 1099511627776 := rfl
  have hmx : mx = 1048576 := rfl
  have hmax : maxLen = 9223372036854775807 := rfl
  refine sr ?_
  refine kO (B.box (ts := [(rd 2 eUsed l)]) (tv (rd 2 eUsed l) rfl) nofun rfl) ?_
  refine kO (B.box (ts := [(tI n0)]) (tv (tI n0) rfl) nofun rfl) ?_
  refine kO (B.box (ts := [(tI g)]) (tv (tI g) rfl) nofun rfl) ?_
  refine fO (OF.assign VEv.nils) ?_
  refine nt ?_
  refine sr ?_
  refine mO (rd 1 eStr ws) rfl ?_
  refine fO (OF.makeFunc (vc (tv (T.op 0 0) rfl) (vc (tv (T.op 1 0) rfl) (vc (tv (T.op 2 0) rfl) VEvs.nil)))) ?_
  refine cO (OC.callF (us := [(rd 1 eStr ws), (T.fn 91 [(T.rp [(rd 2 eUsed l)]), (T.rp [(tI n0)]), (T.rp [(tI g)])])]) (r := (T.sl true 1 ((tooSoon l ws n0 g).map (eStr true)))) (r' := (T.os 1 3 0 (((tooSoon l ws n0 g).map (eStr true)).length))) (objs := [(Obj.rows 1 ((tooSoon l ws n0 g).map (eStr true)))]) rfl (vc (tv (rd 1 eStr ws) rfl) (vc (tv (T.fn 91 [(T.op 0 0), (T.op 1 0), (T.op 2 0)]) rfl) VEvs.nil)) (lp rfl (LendL.cons (Lend.fn (LendL.cons (Lend.op (us' := [(rd 2 eUsed l)]) (ts := [(rd 2 eUsed l)]) rfl (LendL.cons (Lend.pl rfl) (LendL.nil)) (Nat.le_of_ble_eq_true rfl) rfl) (LendL.cons (Lend.op (us' := [(tI n0)]) (ts := [(tI n0)]) rfl (LendL.cons (Lend.pl rfl) (LendL.nil)) (Nat.le_of_ble_eq_true rfl) rfl) (LendL.cons (Lend.op (us' := [(tI g)]) (ts := [(tI g)]) rfl (LendL.cons (Lend.pl rfl) (LendL.nil)) (Nat.le_of_ble_eq_true rfl) rfl) (LendL.nil))))) (LendL.nil))) (W_impl_those_impl_TooSoon_1 (n + 0) ws l n0 g (by first | assumption | omega) (by first | assumption | omega) (by first | assumption | omega)) rfl) ?_
  refine aO (T.os 1 3 0 (((tooSoon l ws n0 g).map (eStr true)).length)) rfl ?_
  refine nt ?_
  refine rt ?_
  refine vfin.eq (r' := (T.sl true 1 ((tooSoon l ws n0 g).map (eStr true)))) ?_ (vfin.r (VRes.tmp (t := (T.os 1 3 0 (((tooSoon l ws n0 g).map (eStr true)).length))) rfl VRes.nil) (Give.os rfl rfl (okStr.cleanMap _)))
  rfl
end Go.Proofs.Ythdnjihmjdbdkaa.AE
