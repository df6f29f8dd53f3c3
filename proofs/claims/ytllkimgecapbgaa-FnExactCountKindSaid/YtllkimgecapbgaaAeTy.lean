/- The plain types of the program: structures, kinds, rows of cells, and the types' facts. Conditions: none. -/
import Derived.Test.YtllkimgecapbgaaAeEq
import Derived.Test.YtllkimgecapbgaaProg
import Derived.KernelRfl
namespace Go.Proofs.Ytllkimgecapbgaa.AE
open Go Go.RowKit
set_option linter.unusedVariables false
set_option linter.unusedSimpArgs false

structure D.Note where
  Cell : Int
  Letter : ByteArray
  Tick : Int
  Who : Int
def kNote : AK D.Note := AK.iso (AK.pair (AK.int .i64) (AK.pair AK.string (AK.pair (AK.int .i64) (AK.int .i64)))) (fun x => (x.Cell, x.Letter, x.Tick, x.Who))
def GNote (x : D.Note) : Prop := ((Lit.int .i64 x.Cell).wf = true) ∧ (x.Letter.size ≤ maxLen) ∧ ((Lit.int .i64 x.Tick).wf = true) ∧ ((Lit.int .i64 x.Who).wf = true)
theorem RNote {h : AH} {a : D.Note} {cs : List Value} (hr : kNote.R h a cs) : cs = [Value.int .i64 a.Cell, Value.string a.Letter, Value.int .i64 a.Tick, Value.int .i64 a.Who] := by
  obtain ⟨_, _, rfl, rfl, ⟨_, _, rfl, rfl, ⟨_, _, rfl, rfl, rfl⟩⟩⟩ := hr
  exact rfl
theorem RNote.mk {h : AH} {a : D.Note} : kNote.R h a [Value.int .i64 a.Cell, Value.string a.Letter, Value.int .i64 a.Tick, Value.int .i64 a.Who] := ⟨_, _, rfl, rfl, ⟨_, _, rfl, rfl, ⟨_, _, rfl, rfl, rfl⟩⟩⟩
structure D.Used where
  Word : ByteArray
  Issue : Int
def kUsed : AK D.Used := AK.iso (AK.pair AK.string (AK.int .i64)) (fun x => (x.Word, x.Issue))
def GUsed (x : D.Used) : Prop := (x.Word.size ≤ maxLen) ∧ ((Lit.int .i64 x.Issue).wf = true)
theorem RUsed {h : AH} {a : D.Used} {cs : List Value} (hr : kUsed.R h a cs) : cs = [Value.string a.Word, Value.int .i64 a.Issue] := by
  obtain ⟨_, _, rfl, rfl, rfl⟩ := hr
  exact rfl
theorem RUsed.mk {h : AH} {a : D.Used} : kUsed.R h a [Value.string a.Word, Value.int .i64 a.Issue] := ⟨_, _, rfl, rfl, rfl⟩
structure D.Report where
  Tester : Int
  Slot : Int
  Kind : Int
  Word : ByteArray
def kReport : AK D.Report := AK.iso (AK.pair (AK.int .i64) (AK.pair (AK.int .i64) (AK.pair (AK.int .i64) AK.string))) (fun x => (x.Tester, x.Slot, x.Kind, x.Word))
def GReport (x : D.Report) : Prop := ((Lit.int .i64 x.Tester).wf = true) ∧ ((Lit.int .i64 x.Slot).wf = true) ∧ ((Lit.int .i64 x.Kind).wf = true) ∧ (x.Word.size ≤ maxLen)
theorem RReport {h : AH} {a : D.Report} {cs : List Value} (hr : kReport.R h a cs) : cs = [Value.int .i64 a.Tester, Value.int .i64 a.Slot, Value.int .i64 a.Kind, Value.string a.Word] := by
  obtain ⟨_, _, rfl, rfl, ⟨_, _, rfl, rfl, ⟨_, _, rfl, rfl, rfl⟩⟩⟩ := hr
  exact rfl
theorem RReport.mk {h : AH} {a : D.Report} : kReport.R h a [Value.int .i64 a.Tester, Value.int .i64 a.Slot, Value.int .i64 a.Kind, Value.string a.Word] := ⟨_, _, rfl, rfl, ⟨_, _, rfl, rfl, ⟨_, _, rfl, rfl, rfl⟩⟩⟩
theorem ok23 : AOpens Try.prog 23 kNote GNote := aopens_mono (aopens_struct (P := Try.prog) (t := 23) (fun x : D.Note => (x.Cell, x.Letter, x.Tick, x.Who)) (fun x => ⟨x.1, x.2.1, x.2.2.1, x.2.2.2⟩) (fun _ => rfl) Try.underlying23 (by kernel_rfl) (afields_cons rfl (by kernel_rfl) (aopens_int (k := .i64) Try.underlying3) (afields_cons rfl (by kernel_rfl) (aopens_string Try.underlying9) (afields_cons rfl (by kernel_rfl) (aopens_int (k := .i64) Try.underlying3) (afields_one rfl (by kernel_rfl) (aopens_int (k := .i64) Try.underlying3)))))) (fun _ h => h)
theorem ok55 : AOpens Try.prog 55 kUsed GUsed := aopens_mono (aopens_struct (P := Try.prog) (t := 55) (fun x : D.Used => (x.Word, x.Issue)) (fun x => ⟨x.1, x.2⟩) (fun _ => rfl) Try.underlying55 (by kernel_rfl) (afields_cons rfl (by kernel_rfl) (aopens_string Try.underlying9) (afields_one rfl (by kernel_rfl) (aopens_int (k := .i64) Try.underlying3)))) (fun _ h => h)
theorem ok63 : AOpens Try.prog 63 kReport GReport := aopens_mono (aopens_struct (P := Try.prog) (t := 63) (fun x : D.Report => (x.Tester, x.Slot, x.Kind, x.Word)) (fun x => ⟨x.1, x.2.1, x.2.2.1, x.2.2.2⟩) (fun _ => rfl) Try.underlying63 (by kernel_rfl) (afields_cons rfl (by kernel_rfl) (aopens_int (k := .i64) Try.underlying3) (afields_cons rfl (by kernel_rfl) (aopens_int (k := .i64) Try.underlying3) (afields_cons rfl (by kernel_rfl) (aopens_int (k := .i64) Try.underlying3) (afields_one rfl (by kernel_rfl) (aopens_string Try.underlying9)))))) (fun _ h => h)
/-! ### facts of the types -/
theorem st1 : isStruct Try.prog 1 = some false := by kernel_rfl
theorem sz1 : Try.prog.cellsOf 1 = 1 := by kernel_rfl
theorem if1 : (Try.prog.info? 1).isSome = true := by kernel_rfl
theorem st2 : isStruct Try.prog 2 = some false := by kernel_rfl
theorem sz2 : Try.prog.cellsOf 2 = 1 := by kernel_rfl
theorem if2 : (Try.prog.info? 2).isSome = true := by kernel_rfl
theorem zo2 : zeroOf Try.prog 2 = some (.int .i64 0) := by kernel_rfl
theorem zc2 : closedV (.int .i64 0) = true := by kernel_rfl
theorem st3 : isStruct Try.prog 3 = some false := by kernel_rfl
theorem sz3 : Try.prog.cellsOf 3 = 1 := by kernel_rfl
theorem if3 : (Try.prog.info? 3).isSome = true := by kernel_rfl
theorem zo3 : zeroOf Try.prog 3 = some (.int .i64 0) := by kernel_rfl
theorem zc3 : closedV (.int .i64 0) = true := by kernel_rfl
theorem st4 : isStruct Try.prog 4 = some false := by kernel_rfl
theorem sz4 : Try.prog.cellsOf 4 = 1 := by kernel_rfl
theorem if4 : (Try.prog.info? 4).isSome = true := by kernel_rfl
theorem zo4 : zeroOf Try.prog 4 = some (.bool false) := by kernel_rfl
theorem zc4 : closedV (.bool false) = true := by kernel_rfl
theorem st5 : isStruct Try.prog 5 = some false := by kernel_rfl
theorem sz5 : Try.prog.cellsOf 5 = 1 := by kernel_rfl
theorem if5 : (Try.prog.info? 5).isSome = true := by kernel_rfl
theorem zo5 : zeroOf Try.prog 5 = some (.int .u8 0) := by kernel_rfl
theorem zc5 : closedV (.int .u8 0) = true := by kernel_rfl
theorem st7 : isStruct Try.prog 7 = some true := by kernel_rfl
theorem sz7 : Try.prog.cellsOf 7 = 4 := by kernel_rfl
theorem if7 : (Try.prog.info? 7).isSome = true := by kernel_rfl
theorem zo7 : zeroOf Try.prog 7 = some (.agg #[.int .i64 0, .int .i64 0, .bool false, .int .u8 0]) := by kernel_rfl
theorem zc7 : closedV (.agg #[.int .i64 0, .int .i64 0, .bool false, .int .u8 0]) = true := by kernel_rfl
theorem st9 : isStruct Try.prog 9 = some false := by kernel_rfl
theorem sz9 : Try.prog.cellsOf 9 = 1 := by kernel_rfl
theorem if9 : (Try.prog.info? 9).isSome = true := by kernel_rfl
theorem zo9 : zeroOf Try.prog 9 = some (.string ByteArray.empty) := by kernel_rfl
theorem zc9 : closedV (.string ByteArray.empty) = true := by kernel_rfl
theorem st12 : isStruct Try.prog 12 = some false := by kernel_rfl
theorem sz12 : Try.prog.cellsOf 12 = 1 := by kernel_rfl
theorem if12 : (Try.prog.info? 12).isSome = true := by kernel_rfl
theorem zo12 : zeroOf Try.prog 12 = some (.int .u64 0) := by kernel_rfl
theorem zc12 : closedV (.int .u64 0) = true := by kernel_rfl
theorem st13 : isStruct Try.prog 13 = some true := by kernel_rfl
theorem sz13 : Try.prog.cellsOf 13 = 2 := by kernel_rfl
theorem if13 : (Try.prog.info? 13).isSome = true := by kernel_rfl
theorem zo13 : zeroOf Try.prog 13 = some (.agg #[.string ByteArray.empty, .int .u64 0]) := by kernel_rfl
theorem zc13 : closedV (.agg #[.string ByteArray.empty, .int .u64 0]) = true := by kernel_rfl
theorem st15 : isStruct Try.prog 15 = some false := by kernel_rfl
theorem sz15 : Try.prog.cellsOf 15 = 1 := by kernel_rfl
theorem if15 : (Try.prog.info? 15).isSome = true := by kernel_rfl
theorem st16 : isStruct Try.prog 16 = some false := by kernel_rfl
theorem sz16 : Try.prog.cellsOf 16 = 1 := by kernel_rfl
theorem if16 : (Try.prog.info? 16).isSome = true := by kernel_rfl
theorem st17 : isStruct Try.prog 17 = some false := by kernel_rfl
theorem sz17 : Try.prog.cellsOf 17 = 1 := by kernel_rfl
theorem if17 : (Try.prog.info? 17).isSome = true := by kernel_rfl
theorem st21 : isStruct Try.prog 21 = some false := by kernel_rfl
theorem sz21 : Try.prog.cellsOf 21 = 1 := by kernel_rfl
theorem if21 : (Try.prog.info? 21).isSome = true := by kernel_rfl
theorem zo21 : zeroOf Try.prog 21 = some (.int .i32 0) := by kernel_rfl
theorem zc21 : closedV (.int .i32 0) = true := by kernel_rfl
theorem st22 : isStruct Try.prog 22 = some true := by kernel_rfl
theorem sz22 : Try.prog.cellsOf 22 = 4 := by kernel_rfl
theorem if22 : (Try.prog.info? 22).isSome = true := by kernel_rfl
theorem zo22 : zeroOf Try.prog 22 = some (.agg #[.int .i64 0, .string ByteArray.empty, .int .i64 0, .int .i64 0]) := by kernel_rfl
theorem zc22 : closedV (.agg #[.int .i64 0, .string ByteArray.empty, .int .i64 0, .int .i64 0]) = true := by kernel_rfl
theorem st23 : isStruct Try.prog 23 = some true := by kernel_rfl
theorem sz23 : Try.prog.cellsOf 23 = 4 := by kernel_rfl
theorem if23 : (Try.prog.info? 23).isSome = true := by kernel_rfl
theorem zo23 : zeroOf Try.prog 23 = some (.agg #[.int .i64 0, .string ByteArray.empty, .int .i64 0, .int .i64 0]) := by kernel_rfl
theorem zc23 : closedV (.agg #[.int .i64 0, .string ByteArray.empty, .int .i64 0, .int .i64 0]) = true := by kernel_rfl
theorem st24 : isStruct Try.prog 24 = some false := by kernel_rfl
theorem sz24 : Try.prog.cellsOf 24 = 1 := by kernel_rfl
theorem if24 : (Try.prog.info? 24).isSome = true := by kernel_rfl
theorem st25 : isStruct Try.prog 25 = some false := by kernel_rfl
theorem sz25 : Try.prog.cellsOf 25 = 1 := by kernel_rfl
theorem if25 : (Try.prog.info? 25).isSome = true := by kernel_rfl
theorem st26 : isStruct Try.prog 26 = some true := by kernel_rfl
theorem sz26 : Try.prog.cellsOf 26 = 4 := by kernel_rfl
theorem if26 : (Try.prog.info? 26).isSome = true := by kernel_rfl
theorem zo26 : zeroOf Try.prog 26 = some (.agg #[.int .i64 0, .string ByteArray.empty, .int .i64 0, .int .i64 0]) := by kernel_rfl
theorem zc26 : closedV (.agg #[.int .i64 0, .string ByteArray.empty, .int .i64 0, .int .i64 0]) = true := by kernel_rfl
theorem st27 : isStruct Try.prog 27 = some false := by kernel_rfl
theorem sz27 : Try.prog.cellsOf 27 = 1 := by kernel_rfl
theorem if27 : (Try.prog.info? 27).isSome = true := by kernel_rfl
theorem st28 : isStruct Try.prog 28 = some false := by kernel_rfl
theorem sz28 : Try.prog.cellsOf 28 = 1 := by kernel_rfl
theorem if28 : (Try.prog.info? 28).isSome = true := by kernel_rfl
theorem st29 : isStruct Try.prog 29 = some false := by kernel_rfl
theorem sz29 : Try.prog.cellsOf 29 = 1 := by kernel_rfl
theorem if29 : (Try.prog.info? 29).isSome = true := by kernel_rfl
theorem zo29 : zeroOf Try.prog 29 = some (.slice none 0 0) := by kernel_rfl
theorem zc29 : closedV (.slice none 0 0) = true := by kernel_rfl
theorem st30 : isStruct Try.prog 30 = some false := by kernel_rfl
theorem sz30 : Try.prog.cellsOf 30 = 1 := by kernel_rfl
theorem if30 : (Try.prog.info? 30).isSome = true := by kernel_rfl
theorem st31 : isStruct Try.prog 31 = some false := by kernel_rfl
theorem sz31 : Try.prog.cellsOf 31 = 1 := by kernel_rfl
theorem if31 : (Try.prog.info? 31).isSome = true := by kernel_rfl
theorem st32 : isStruct Try.prog 32 = some false := by kernel_rfl
theorem sz32 : Try.prog.cellsOf 32 = 1 := by kernel_rfl
theorem if32 : (Try.prog.info? 32).isSome = true := by kernel_rfl
theorem zo32 : zeroOf Try.prog 32 = some (.slice none 0 0) := by kernel_rfl
theorem zc32 : closedV (.slice none 0 0) = true := by kernel_rfl
theorem st33 : isStruct Try.prog 33 = some false := by kernel_rfl
theorem sz33 : Try.prog.cellsOf 33 = 1 := by kernel_rfl
theorem if33 : (Try.prog.info? 33).isSome = true := by kernel_rfl
theorem st34 : isStruct Try.prog 34 = some false := by kernel_rfl
theorem sz34 : Try.prog.cellsOf 34 = 1 := by kernel_rfl
theorem if34 : (Try.prog.info? 34).isSome = true := by kernel_rfl
theorem st35 : isStruct Try.prog 35 = some false := by kernel_rfl
theorem sz35 : Try.prog.cellsOf 35 = 1 := by kernel_rfl
theorem if35 : (Try.prog.info? 35).isSome = true := by kernel_rfl
theorem st36 : isStruct Try.prog 36 = some false := by kernel_rfl
theorem sz36 : Try.prog.cellsOf 36 = 1 := by kernel_rfl
theorem if36 : (Try.prog.info? 36).isSome = true := by kernel_rfl
theorem zo36 : zeroOf Try.prog 36 = some (.slice none 0 0) := by kernel_rfl
theorem zc36 : closedV (.slice none 0 0) = true := by kernel_rfl
theorem st37 : isStruct Try.prog 37 = some false := by kernel_rfl
theorem sz37 : Try.prog.cellsOf 37 = 1 := by kernel_rfl
theorem if37 : (Try.prog.info? 37).isSome = true := by kernel_rfl
theorem st38 : isStruct Try.prog 38 = some false := by kernel_rfl
theorem sz38 : Try.prog.cellsOf 38 = 1 := by kernel_rfl
theorem if38 : (Try.prog.info? 38).isSome = true := by kernel_rfl
theorem st39 : isStruct Try.prog 39 = some false := by kernel_rfl
theorem sz39 : Try.prog.cellsOf 39 = 1 := by kernel_rfl
theorem if39 : (Try.prog.info? 39).isSome = true := by kernel_rfl
theorem zo39 : zeroOf Try.prog 39 = some (.slice none 0 0) := by kernel_rfl
theorem zc39 : closedV (.slice none 0 0) = true := by kernel_rfl
theorem st40 : isStruct Try.prog 40 = some false := by kernel_rfl
theorem sz40 : Try.prog.cellsOf 40 = 1 := by kernel_rfl
theorem if40 : (Try.prog.info? 40).isSome = true := by kernel_rfl
theorem st41 : isStruct Try.prog 41 = some false := by kernel_rfl
theorem sz41 : Try.prog.cellsOf 41 = 1 := by kernel_rfl
theorem if41 : (Try.prog.info? 41).isSome = true := by kernel_rfl
theorem st42 : isStruct Try.prog 42 = some false := by kernel_rfl
theorem sz42 : Try.prog.cellsOf 42 = 1 := by kernel_rfl
theorem if42 : (Try.prog.info? 42).isSome = true := by kernel_rfl
theorem st43 : isStruct Try.prog 43 = some false := by kernel_rfl
theorem sz43 : Try.prog.cellsOf 43 = 1 := by kernel_rfl
theorem if43 : (Try.prog.info? 43).isSome = true := by kernel_rfl
theorem st44 : isStruct Try.prog 44 = some false := by kernel_rfl
theorem sz44 : Try.prog.cellsOf 44 = 1 := by kernel_rfl
theorem if44 : (Try.prog.info? 44).isSome = true := by kernel_rfl
theorem zo44 : zeroOf Try.prog 44 = some (.slice none 0 0) := by kernel_rfl
theorem zc44 : closedV (.slice none 0 0) = true := by kernel_rfl
theorem st45 : isStruct Try.prog 45 = some false := by kernel_rfl
theorem sz45 : Try.prog.cellsOf 45 = 1 := by kernel_rfl
theorem if45 : (Try.prog.info? 45).isSome = true := by kernel_rfl
theorem st46 : isStruct Try.prog 46 = some false := by kernel_rfl
theorem sz46 : Try.prog.cellsOf 46 = 1 := by kernel_rfl
theorem if46 : (Try.prog.info? 46).isSome = true := by kernel_rfl
theorem st47 : isStruct Try.prog 47 = some false := by kernel_rfl
theorem sz47 : Try.prog.cellsOf 47 = 1 := by kernel_rfl
theorem if47 : (Try.prog.info? 47).isSome = true := by kernel_rfl
theorem zo47 : zeroOf Try.prog 47 = some (.slice none 0 0) := by kernel_rfl
theorem zc47 : closedV (.slice none 0 0) = true := by kernel_rfl
theorem st48 : isStruct Try.prog 48 = some false := by kernel_rfl
theorem sz48 : Try.prog.cellsOf 48 = 1 := by kernel_rfl
theorem if48 : (Try.prog.info? 48).isSome = true := by kernel_rfl
theorem st49 : isStruct Try.prog 49 = some false := by kernel_rfl
theorem sz49 : Try.prog.cellsOf 49 = 1 := by kernel_rfl
theorem if49 : (Try.prog.info? 49).isSome = true := by kernel_rfl
theorem st50 : isStruct Try.prog 50 = some false := by kernel_rfl
theorem sz50 : Try.prog.cellsOf 50 = 1 := by kernel_rfl
theorem if50 : (Try.prog.info? 50).isSome = true := by kernel_rfl
theorem st51 : isStruct Try.prog 51 = some false := by kernel_rfl
theorem sz51 : Try.prog.cellsOf 51 = 1 := by kernel_rfl
theorem if51 : (Try.prog.info? 51).isSome = true := by kernel_rfl
theorem st52 : isStruct Try.prog 52 = some false := by kernel_rfl
theorem sz52 : Try.prog.cellsOf 52 = 1 := by kernel_rfl
theorem if52 : (Try.prog.info? 52).isSome = true := by kernel_rfl
theorem st53 : isStruct Try.prog 53 = some false := by kernel_rfl
theorem sz53 : Try.prog.cellsOf 53 = 1 := by kernel_rfl
theorem if53 : (Try.prog.info? 53).isSome = true := by kernel_rfl
theorem st54 : isStruct Try.prog 54 = some true := by kernel_rfl
theorem sz54 : Try.prog.cellsOf 54 = 2 := by kernel_rfl
theorem if54 : (Try.prog.info? 54).isSome = true := by kernel_rfl
theorem zo54 : zeroOf Try.prog 54 = some (.agg #[.string ByteArray.empty, .int .i64 0]) := by kernel_rfl
theorem zc54 : closedV (.agg #[.string ByteArray.empty, .int .i64 0]) = true := by kernel_rfl
theorem st55 : isStruct Try.prog 55 = some true := by kernel_rfl
theorem sz55 : Try.prog.cellsOf 55 = 2 := by kernel_rfl
theorem if55 : (Try.prog.info? 55).isSome = true := by kernel_rfl
theorem zo55 : zeroOf Try.prog 55 = some (.agg #[.string ByteArray.empty, .int .i64 0]) := by kernel_rfl
theorem zc55 : closedV (.agg #[.string ByteArray.empty, .int .i64 0]) = true := by kernel_rfl
theorem st56 : isStruct Try.prog 56 = some true := by kernel_rfl
theorem sz56 : Try.prog.cellsOf 56 = 2 := by kernel_rfl
theorem if56 : (Try.prog.info? 56).isSome = true := by kernel_rfl
theorem zo56 : zeroOf Try.prog 56 = some (.agg #[.string ByteArray.empty, .int .i64 0]) := by kernel_rfl
theorem zc56 : closedV (.agg #[.string ByteArray.empty, .int .i64 0]) = true := by kernel_rfl
theorem st57 : isStruct Try.prog 57 = some false := by kernel_rfl
theorem sz57 : Try.prog.cellsOf 57 = 1 := by kernel_rfl
theorem if57 : (Try.prog.info? 57).isSome = true := by kernel_rfl
theorem st58 : isStruct Try.prog 58 = some false := by kernel_rfl
theorem sz58 : Try.prog.cellsOf 58 = 1 := by kernel_rfl
theorem if58 : (Try.prog.info? 58).isSome = true := by kernel_rfl
theorem st59 : isStruct Try.prog 59 = some false := by kernel_rfl
theorem sz59 : Try.prog.cellsOf 59 = 1 := by kernel_rfl
theorem if59 : (Try.prog.info? 59).isSome = true := by kernel_rfl
theorem st60 : isStruct Try.prog 60 = some false := by kernel_rfl
theorem sz60 : Try.prog.cellsOf 60 = 1 := by kernel_rfl
theorem if60 : (Try.prog.info? 60).isSome = true := by kernel_rfl
theorem st61 : isStruct Try.prog 61 = some false := by kernel_rfl
theorem sz61 : Try.prog.cellsOf 61 = 1 := by kernel_rfl
theorem if61 : (Try.prog.info? 61).isSome = true := by kernel_rfl
theorem st62 : isStruct Try.prog 62 = some true := by kernel_rfl
theorem sz62 : Try.prog.cellsOf 62 = 4 := by kernel_rfl
theorem if62 : (Try.prog.info? 62).isSome = true := by kernel_rfl
theorem zo62 : zeroOf Try.prog 62 = some (.agg #[.int .i64 0, .int .i64 0, .int .i64 0, .string ByteArray.empty]) := by kernel_rfl
theorem zc62 : closedV (.agg #[.int .i64 0, .int .i64 0, .int .i64 0, .string ByteArray.empty]) = true := by kernel_rfl
theorem st63 : isStruct Try.prog 63 = some true := by kernel_rfl
theorem sz63 : Try.prog.cellsOf 63 = 4 := by kernel_rfl
theorem if63 : (Try.prog.info? 63).isSome = true := by kernel_rfl
theorem zo63 : zeroOf Try.prog 63 = some (.agg #[.int .i64 0, .int .i64 0, .int .i64 0, .string ByteArray.empty]) := by kernel_rfl
theorem zc63 : closedV (.agg #[.int .i64 0, .int .i64 0, .int .i64 0, .string ByteArray.empty]) = true := by kernel_rfl
theorem st64 : isStruct Try.prog 64 = some false := by kernel_rfl
theorem sz64 : Try.prog.cellsOf 64 = 1 := by kernel_rfl
theorem if64 : (Try.prog.info? 64).isSome = true := by kernel_rfl
theorem zo64 : zeroOf Try.prog 64 = some (.slice none 0 0) := by kernel_rfl
theorem zc64 : closedV (.slice none 0 0) = true := by kernel_rfl
theorem st65 : isStruct Try.prog 65 = some true := by kernel_rfl
theorem sz65 : Try.prog.cellsOf 65 = 4 := by kernel_rfl
theorem if65 : (Try.prog.info? 65).isSome = true := by kernel_rfl
theorem zo65 : zeroOf Try.prog 65 = some (.agg #[.int .i64 0, .int .i64 0, .int .i64 0, .string ByteArray.empty]) := by kernel_rfl
theorem zc65 : closedV (.agg #[.int .i64 0, .int .i64 0, .int .i64 0, .string ByteArray.empty]) = true := by kernel_rfl
theorem st66 : isStruct Try.prog 66 = some false := by kernel_rfl
theorem sz66 : Try.prog.cellsOf 66 = 1 := by kernel_rfl
theorem if66 : (Try.prog.info? 66).isSome = true := by kernel_rfl
theorem st67 : isStruct Try.prog 67 = some false := by kernel_rfl
theorem sz67 : Try.prog.cellsOf 67 = 1 := by kernel_rfl
theorem if67 : (Try.prog.info? 67).isSome = true := by kernel_rfl
theorem st68 : isStruct Try.prog 68 = some false := by kernel_rfl
theorem sz68 : Try.prog.cellsOf 68 = 1 := by kernel_rfl
theorem if68 : (Try.prog.info? 68).isSome = true := by kernel_rfl
theorem st69 : isStruct Try.prog 69 = some false := by kernel_rfl
theorem sz69 : Try.prog.cellsOf 69 = 1 := by kernel_rfl
theorem if69 : (Try.prog.info? 69).isSome = true := by kernel_rfl
theorem st70 : isStruct Try.prog 70 = some false := by kernel_rfl
theorem sz70 : Try.prog.cellsOf 70 = 1 := by kernel_rfl
theorem if70 : (Try.prog.info? 70).isSome = true := by kernel_rfl
theorem st71 : isStruct Try.prog 71 = some false := by kernel_rfl
theorem sz71 : Try.prog.cellsOf 71 = 1 := by kernel_rfl
theorem if71 : (Try.prog.info? 71).isSome = true := by kernel_rfl
theorem st72 : isStruct Try.prog 72 = some false := by kernel_rfl
theorem sz72 : Try.prog.cellsOf 72 = 1 := by kernel_rfl
theorem if72 : (Try.prog.info? 72).isSome = true := by kernel_rfl
theorem st73 : isStruct Try.prog 73 = some false := by kernel_rfl
theorem sz73 : Try.prog.cellsOf 73 = 1 := by kernel_rfl
theorem if73 : (Try.prog.info? 73).isSome = true := by kernel_rfl
theorem st74 : isStruct Try.prog 74 = some false := by kernel_rfl
theorem sz74 : Try.prog.cellsOf 74 = 1 := by kernel_rfl
theorem if74 : (Try.prog.info? 74).isSome = true := by kernel_rfl
theorem st80 : isStruct Try.prog 80 = some false := by kernel_rfl
theorem sz80 : Try.prog.cellsOf 80 = 1 := by kernel_rfl
theorem if80 : (Try.prog.info? 80).isSome = true := by kernel_rfl
theorem st81 : isStruct Try.prog 81 = some false := by kernel_rfl
theorem sz81 : Try.prog.cellsOf 81 = 1 := by kernel_rfl
theorem if81 : (Try.prog.info? 81).isSome = true := by kernel_rfl
theorem zo81 : zeroOf Try.prog 81 = some (.int .u32 0) := by kernel_rfl
theorem zc81 : closedV (.int .u32 0) = true := by kernel_rfl
theorem st84 : isStruct Try.prog 84 = some false := by kernel_rfl
theorem sz84 : Try.prog.cellsOf 84 = 1 := by kernel_rfl
theorem if84 : (Try.prog.info? 84).isSome = true := by kernel_rfl
theorem st85 : isStruct Try.prog 85 = some false := by kernel_rfl
theorem sz85 : Try.prog.cellsOf 85 = 1 := by kernel_rfl
theorem if85 : (Try.prog.info? 85).isSome = true := by kernel_rfl
theorem fa7_0 (k o : Nat) : afieldAddr Try.prog 7 (.pointer (some ⟨k, o, none⟩)) 0 = some (.pointer (some ⟨k, o + 0, none⟩)) := by simp [afieldAddr, Try.underlying7, if2, sz2]
theorem fa7_1 (k o : Nat) : afieldAddr Try.prog 7 (.pointer (some ⟨k, o, none⟩)) 1 = some (.pointer (some ⟨k, o + 1, none⟩)) := by simp [afieldAddr, Try.underlying7, if3, sz3]
theorem fa7_2 (k o : Nat) : afieldAddr Try.prog 7 (.pointer (some ⟨k, o, none⟩)) 2 = some (.pointer (some ⟨k, o + 2, none⟩)) := by simp [afieldAddr, Try.underlying7, if4, sz4]
theorem fa13_0 (k o : Nat) : afieldAddr Try.prog 13 (.pointer (some ⟨k, o, none⟩)) 0 = some (.pointer (some ⟨k, o + 0, none⟩)) := by simp [afieldAddr, Try.underlying13, if9, sz9]
theorem fa13_1 (k o : Nat) : afieldAddr Try.prog 13 (.pointer (some ⟨k, o, none⟩)) 1 = some (.pointer (some ⟨k, o + 1, none⟩)) := by simp [afieldAddr, Try.underlying13, if12, sz12]
theorem fa22_0 (k o : Nat) : afieldAddr Try.prog 22 (.pointer (some ⟨k, o, none⟩)) 0 = some (.pointer (some ⟨k, o + 0, none⟩)) := by simp [afieldAddr, Try.underlying22, if3, sz3]
theorem fa22_1 (k o : Nat) : afieldAddr Try.prog 22 (.pointer (some ⟨k, o, none⟩)) 1 = some (.pointer (some ⟨k, o + 1, none⟩)) := by simp [afieldAddr, Try.underlying22, if9, sz9]
theorem fa22_2 (k o : Nat) : afieldAddr Try.prog 22 (.pointer (some ⟨k, o, none⟩)) 2 = some (.pointer (some ⟨k, o + 2, none⟩)) := by simp [afieldAddr, Try.underlying22, if3, sz3]
theorem fa22_3 (k o : Nat) : afieldAddr Try.prog 22 (.pointer (some ⟨k, o, none⟩)) 3 = some (.pointer (some ⟨k, o + 3, none⟩)) := by simp [afieldAddr, Try.underlying22, if3, sz3]
theorem fa23_0 (k o : Nat) : afieldAddr Try.prog 23 (.pointer (some ⟨k, o, none⟩)) 0 = some (.pointer (some ⟨k, o + 0, none⟩)) := by simp [afieldAddr, Try.underlying23, if3, sz3]
theorem fa23_1 (k o : Nat) : afieldAddr Try.prog 23 (.pointer (some ⟨k, o, none⟩)) 1 = some (.pointer (some ⟨k, o + 1, none⟩)) := by simp [afieldAddr, Try.underlying23, if9, sz9]
theorem fa23_2 (k o : Nat) : afieldAddr Try.prog 23 (.pointer (some ⟨k, o, none⟩)) 2 = some (.pointer (some ⟨k, o + 2, none⟩)) := by simp [afieldAddr, Try.underlying23, if3, sz3]
theorem fa23_3 (k o : Nat) : afieldAddr Try.prog 23 (.pointer (some ⟨k, o, none⟩)) 3 = some (.pointer (some ⟨k, o + 3, none⟩)) := by simp [afieldAddr, Try.underlying23, if3, sz3]
theorem fa26_0 (k o : Nat) : afieldAddr Try.prog 26 (.pointer (some ⟨k, o, none⟩)) 0 = some (.pointer (some ⟨k, o + 0, none⟩)) := by simp [afieldAddr, Try.underlying26, if3, sz3]
theorem fa26_1 (k o : Nat) : afieldAddr Try.prog 26 (.pointer (some ⟨k, o, none⟩)) 1 = some (.pointer (some ⟨k, o + 1, none⟩)) := by simp [afieldAddr, Try.underlying26, if9, sz9]
theorem fa26_2 (k o : Nat) : afieldAddr Try.prog 26 (.pointer (some ⟨k, o, none⟩)) 2 = some (.pointer (some ⟨k, o + 2, none⟩)) := by simp [afieldAddr, Try.underlying26, if3, sz3]
theorem fa26_3 (k o : Nat) : afieldAddr Try.prog 26 (.pointer (some ⟨k, o, none⟩)) 3 = some (.pointer (some ⟨k, o + 3, none⟩)) := by simp [afieldAddr, Try.underlying26, if3, sz3]
theorem fa54_0 (k o : Nat) : afieldAddr Try.prog 54 (.pointer (some ⟨k, o, none⟩)) 0 = some (.pointer (some ⟨k, o + 0, none⟩)) := by simp [afieldAddr, Try.underlying54, if9, sz9]
theorem fa54_1 (k o : Nat) : afieldAddr Try.prog 54 (.pointer (some ⟨k, o, none⟩)) 1 = some (.pointer (some ⟨k, o + 1, none⟩)) := by simp [afieldAddr, Try.underlying54, if3, sz3]
theorem fa55_0 (k o : Nat) : afieldAddr Try.prog 55 (.pointer (some ⟨k, o, none⟩)) 0 = some (.pointer (some ⟨k, o + 0, none⟩)) := by simp [afieldAddr, Try.underlying55, if9, sz9]
theorem fa55_1 (k o : Nat) : afieldAddr Try.prog 55 (.pointer (some ⟨k, o, none⟩)) 1 = some (.pointer (some ⟨k, o + 1, none⟩)) := by simp [afieldAddr, Try.underlying55, if3, sz3]
theorem fa56_0 (k o : Nat) : afieldAddr Try.prog 56 (.pointer (some ⟨k, o, none⟩)) 0 = some (.pointer (some ⟨k, o + 0, none⟩)) := by simp [afieldAddr, Try.underlying56, if9, sz9]
theorem fa56_1 (k o : Nat) : afieldAddr Try.prog 56 (.pointer (some ⟨k, o, none⟩)) 1 = some (.pointer (some ⟨k, o + 1, none⟩)) := by simp [afieldAddr, Try.underlying56, if3, sz3]
theorem fa62_0 (k o : Nat) : afieldAddr Try.prog 62 (.pointer (some ⟨k, o, none⟩)) 0 = some (.pointer (some ⟨k, o + 0, none⟩)) := by simp [afieldAddr, Try.underlying62, if3, sz3]
theorem fa62_1 (k o : Nat) : afieldAddr Try.prog 62 (.pointer (some ⟨k, o, none⟩)) 1 = some (.pointer (some ⟨k, o + 1, none⟩)) := by simp [afieldAddr, Try.underlying62, if3, sz3]
theorem fa62_2 (k o : Nat) : afieldAddr Try.prog 62 (.pointer (some ⟨k, o, none⟩)) 2 = some (.pointer (some ⟨k, o + 2, none⟩)) := by simp [afieldAddr, Try.underlying62, if3, sz3]
theorem fa62_3 (k o : Nat) : afieldAddr Try.prog 62 (.pointer (some ⟨k, o, none⟩)) 3 = some (.pointer (some ⟨k, o + 3, none⟩)) := by simp [afieldAddr, Try.underlying62, if9, sz9]
theorem fa63_0 (k o : Nat) : afieldAddr Try.prog 63 (.pointer (some ⟨k, o, none⟩)) 0 = some (.pointer (some ⟨k, o + 0, none⟩)) := by simp [afieldAddr, Try.underlying63, if3, sz3]
theorem fa63_1 (k o : Nat) : afieldAddr Try.prog 63 (.pointer (some ⟨k, o, none⟩)) 1 = some (.pointer (some ⟨k, o + 1, none⟩)) := by simp [afieldAddr, Try.underlying63, if3, sz3]
theorem fa63_2 (k o : Nat) : afieldAddr Try.prog 63 (.pointer (some ⟨k, o, none⟩)) 2 = some (.pointer (some ⟨k, o + 2, none⟩)) := by simp [afieldAddr, Try.underlying63, if3, sz3]
theorem fa63_3 (k o : Nat) : afieldAddr Try.prog 63 (.pointer (some ⟨k, o, none⟩)) 3 = some (.pointer (some ⟨k, o + 3, none⟩)) := by simp [afieldAddr, Try.underlying63, if9, sz9]
theorem fa65_0 (k o : Nat) : afieldAddr Try.prog 65 (.pointer (some ⟨k, o, none⟩)) 0 = some (.pointer (some ⟨k, o + 0, none⟩)) := by simp [afieldAddr, Try.underlying65, if3, sz3]
theorem fa65_1 (k o : Nat) : afieldAddr Try.prog 65 (.pointer (some ⟨k, o, none⟩)) 1 = some (.pointer (some ⟨k, o + 1, none⟩)) := by simp [afieldAddr, Try.underlying65, if3, sz3]
theorem fa65_2 (k o : Nat) : afieldAddr Try.prog 65 (.pointer (some ⟨k, o, none⟩)) 2 = some (.pointer (some ⟨k, o + 2, none⟩)) := by simp [afieldAddr, Try.underlying65, if3, sz3]
theorem fa65_3 (k o : Nat) : afieldAddr Try.prog 65 (.pointer (some ⟨k, o, none⟩)) 3 = some (.pointer (some ⟨k, o + 3, none⟩)) := by simp [afieldAddr, Try.underlying65, if9, sz9]
theorem eq23 (a b : D.Note) : ∃ q, eqv Try.prog 20 23 (.agg #[Value.int .i64 a.Cell, Value.string a.Letter, Value.int .i64 a.Tick, Value.int .i64 a.Who]) (.agg #[Value.int .i64 b.Cell, Value.string b.Letter, Value.int .i64 b.Tick, Value.int .i64 b.Who]) = some q ∧ (q = true ↔ a = b) := by
  refine ⟨_, eqv_struct 19 Try.underlying23 rfl (by kernel_rfl) (eqf_cons rfl (apart_one st3 rfl) (apart_one st3 rfl) (eqv_int 18 Try.underlying3) (eqf_cons rfl (apart_one st9 rfl) (apart_one st9 rfl) (eqv_str 18 Try.underlying9) (eqf_cons rfl (apart_one st3 rfl) (apart_one st3 rfl) (eqv_int 18 Try.underlying3) (eqf_cons rfl (apart_one st3 rfl) (apart_one st3 rfl) (eqv_int 18 Try.underlying3) eqf_nil)))), ?_⟩
  obtain ⟨a0, a1, a2, a3⟩ := a
  obtain ⟨b0, b1, b2, b3⟩ := b
  simp
theorem beq23 (a b : D.Note) (xo yo : Operand) : ∃ q, abop Try.prog .eql 23 xo yo (.agg #[Value.int .i64 a.Cell, Value.string a.Letter, Value.int .i64 a.Tick, Value.int .i64 a.Who]) (.agg #[Value.int .i64 b.Cell, Value.string b.Letter, Value.int .i64 b.Tick, Value.int .i64 b.Who]) = some (.bool q) ∧ (q = true ↔ a = b) := by
  obtain ⟨q, h1, h2⟩ := eq23 a b
  exact ⟨q, abop_eql (by simp [closedV, closed1]) (by simp [closedV, closed1]) (by kernel_rfl) h1, h2⟩
theorem bne23 (a b : D.Note) (xo yo : Operand) : ∃ q, abop Try.prog .neq 23 xo yo (.agg #[Value.int .i64 a.Cell, Value.string a.Letter, Value.int .i64 a.Tick, Value.int .i64 a.Who]) (.agg #[Value.int .i64 b.Cell, Value.string b.Letter, Value.int .i64 b.Tick, Value.int .i64 b.Who]) = some (.bool (!q)) ∧ (q = true ↔ a = b) := by
  obtain ⟨q, h1, h2⟩ := eq23 a b
  exact ⟨q, abop_neq (by simp [closedV, closed1]) (by simp [closedV, closed1]) (by kernel_rfl) h1, h2⟩
theorem eq26 (a b : D.Note) : ∃ q, eqv Try.prog 20 26 (.agg #[Value.int .i64 a.Cell, Value.string a.Letter, Value.int .i64 a.Tick, Value.int .i64 a.Who]) (.agg #[Value.int .i64 b.Cell, Value.string b.Letter, Value.int .i64 b.Tick, Value.int .i64 b.Who]) = some q ∧ (q = true ↔ a = b) := by
  refine ⟨_, eqv_struct 19 Try.underlying26 rfl (by kernel_rfl) (eqf_cons rfl (apart_one st3 rfl) (apart_one st3 rfl) (eqv_int 18 Try.underlying3) (eqf_cons rfl (apart_one st9 rfl) (apart_one st9 rfl) (eqv_str 18 Try.underlying9) (eqf_cons rfl (apart_one st3 rfl) (apart_one st3 rfl) (eqv_int 18 Try.underlying3) (eqf_cons rfl (apart_one st3 rfl) (apart_one st3 rfl) (eqv_int 18 Try.underlying3) eqf_nil)))), ?_⟩
  obtain ⟨a0, a1, a2, a3⟩ := a
  obtain ⟨b0, b1, b2, b3⟩ := b
  simp
theorem beq26 (a b : D.Note) (xo yo : Operand) : ∃ q, abop Try.prog .eql 26 xo yo (.agg #[Value.int .i64 a.Cell, Value.string a.Letter, Value.int .i64 a.Tick, Value.int .i64 a.Who]) (.agg #[Value.int .i64 b.Cell, Value.string b.Letter, Value.int .i64 b.Tick, Value.int .i64 b.Who]) = some (.bool q) ∧ (q = true ↔ a = b) := by
  obtain ⟨q, h1, h2⟩ := eq26 a b
  exact ⟨q, abop_eql (by simp [closedV, closed1]) (by simp [closedV, closed1]) (by kernel_rfl) h1, h2⟩
theorem bne26 (a b : D.Note) (xo yo : Operand) : ∃ q, abop Try.prog .neq 26 xo yo (.agg #[Value.int .i64 a.Cell, Value.string a.Letter, Value.int .i64 a.Tick, Value.int .i64 a.Who]) (.agg #[Value.int .i64 b.Cell, Value.string b.Letter, Value.int .i64 b.Tick, Value.int .i64 b.Who]) = some (.bool (!q)) ∧ (q = true ↔ a = b) := by
  obtain ⟨q, h1, h2⟩ := eq26 a b
  exact ⟨q, abop_neq (by simp [closedV, closed1]) (by simp [closedV, closed1]) (by kernel_rfl) h1, h2⟩
theorem eq55 (a b : D.Used) : ∃ q, eqv Try.prog 20 55 (.agg #[Value.string a.Word, Value.int .i64 a.Issue]) (.agg #[Value.string b.Word, Value.int .i64 b.Issue]) = some q ∧ (q = true ↔ a = b) := by
  refine ⟨_, eqv_struct 19 Try.underlying55 rfl (by kernel_rfl) (eqf_cons rfl (apart_one st9 rfl) (apart_one st9 rfl) (eqv_str 18 Try.underlying9) (eqf_cons rfl (apart_one st3 rfl) (apart_one st3 rfl) (eqv_int 18 Try.underlying3) eqf_nil)), ?_⟩
  obtain ⟨a0, a1⟩ := a
  obtain ⟨b0, b1⟩ := b
  simp
theorem beq55 (a b : D.Used) (xo yo : Operand) : ∃ q, abop Try.prog .eql 55 xo yo (.agg #[Value.string a.Word, Value.int .i64 a.Issue]) (.agg #[Value.string b.Word, Value.int .i64 b.Issue]) = some (.bool q) ∧ (q = true ↔ a = b) := by
  obtain ⟨q, h1, h2⟩ := eq55 a b
  exact ⟨q, abop_eql (by simp [closedV, closed1]) (by simp [closedV, closed1]) (by kernel_rfl) h1, h2⟩
theorem bne55 (a b : D.Used) (xo yo : Operand) : ∃ q, abop Try.prog .neq 55 xo yo (.agg #[Value.string a.Word, Value.int .i64 a.Issue]) (.agg #[Value.string b.Word, Value.int .i64 b.Issue]) = some (.bool (!q)) ∧ (q = true ↔ a = b) := by
  obtain ⟨q, h1, h2⟩ := eq55 a b
  exact ⟨q, abop_neq (by simp [closedV, closed1]) (by simp [closedV, closed1]) (by kernel_rfl) h1, h2⟩
theorem eq56 (a b : D.Used) : ∃ q, eqv Try.prog 20 56 (.agg #[Value.string a.Word, Value.int .i64 a.Issue]) (.agg #[Value.string b.Word, Value.int .i64 b.Issue]) = some q ∧ (q = true ↔ a = b) := by
  refine ⟨_, eqv_struct 19 Try.underlying56 rfl (by kernel_rfl) (eqf_cons rfl (apart_one st9 rfl) (apart_one st9 rfl) (eqv_str 18 Try.underlying9) (eqf_cons rfl (apart_one st3 rfl) (apart_one st3 rfl) (eqv_int 18 Try.underlying3) eqf_nil)), ?_⟩
  obtain ⟨a0, a1⟩ := a
  obtain ⟨b0, b1⟩ := b
  simp
theorem beq56 (a b : D.Used) (xo yo : Operand) : ∃ q, abop Try.prog .eql 56 xo yo (.agg #[Value.string a.Word, Value.int .i64 a.Issue]) (.agg #[Value.string b.Word, Value.int .i64 b.Issue]) = some (.bool q) ∧ (q = true ↔ a = b) := by
  obtain ⟨q, h1, h2⟩ := eq56 a b
  exact ⟨q, abop_eql (by simp [closedV, closed1]) (by simp [closedV, closed1]) (by kernel_rfl) h1, h2⟩
theorem bne56 (a b : D.Used) (xo yo : Operand) : ∃ q, abop Try.prog .neq 56 xo yo (.agg #[Value.string a.Word, Value.int .i64 a.Issue]) (.agg #[Value.string b.Word, Value.int .i64 b.Issue]) = some (.bool (!q)) ∧ (q = true ↔ a = b) := by
  obtain ⟨q, h1, h2⟩ := eq56 a b
  exact ⟨q, abop_neq (by simp [closedV, closed1]) (by simp [closedV, closed1]) (by kernel_rfl) h1, h2⟩
theorem eq63 (a b : D.Report) : ∃ q, eqv Try.prog 20 63 (.agg #[Value.int .i64 a.Tester, Value.int .i64 a.Slot, Value.int .i64 a.Kind, Value.string a.Word]) (.agg #[Value.int .i64 b.Tester, Value.int .i64 b.Slot, Value.int .i64 b.Kind, Value.string b.Word]) = some q ∧ (q = true ↔ a = b) := by
  refine ⟨_, eqv_struct 19 Try.underlying63 rfl (by kernel_rfl) (eqf_cons rfl (apart_one st3 rfl) (apart_one st3 rfl) (eqv_int 18 Try.underlying3) (eqf_cons rfl (apart_one st3 rfl) (apart_one st3 rfl) (eqv_int 18 Try.underlying3) (eqf_cons rfl (apart_one st3 rfl) (apart_one st3 rfl) (eqv_int 18 Try.underlying3) (eqf_cons rfl (apart_one st9 rfl) (apart_one st9 rfl) (eqv_str 18 Try.underlying9) eqf_nil)))), ?_⟩
  obtain ⟨a0, a1, a2, a3⟩ := a
  obtain ⟨b0, b1, b2, b3⟩ := b
  simp
theorem beq63 (a b : D.Report) (xo yo : Operand) : ∃ q, abop Try.prog .eql 63 xo yo (.agg #[Value.int .i64 a.Tester, Value.int .i64 a.Slot, Value.int .i64 a.Kind, Value.string a.Word]) (.agg #[Value.int .i64 b.Tester, Value.int .i64 b.Slot, Value.int .i64 b.Kind, Value.string b.Word]) = some (.bool q) ∧ (q = true ↔ a = b) := by
  obtain ⟨q, h1, h2⟩ := eq63 a b
  exact ⟨q, abop_eql (by simp [closedV, closed1]) (by simp [closedV, closed1]) (by kernel_rfl) h1, h2⟩
theorem bne63 (a b : D.Report) (xo yo : Operand) : ∃ q, abop Try.prog .neq 63 xo yo (.agg #[Value.int .i64 a.Tester, Value.int .i64 a.Slot, Value.int .i64 a.Kind, Value.string a.Word]) (.agg #[Value.int .i64 b.Tester, Value.int .i64 b.Slot, Value.int .i64 b.Kind, Value.string b.Word]) = some (.bool (!q)) ∧ (q = true ↔ a = b) := by
  obtain ⟨q, h1, h2⟩ := eq63 a b
  exact ⟨q, abop_neq (by simp [closedV, closed1]) (by simp [closedV, closed1]) (by kernel_rfl) h1, h2⟩
theorem eq65 (a b : D.Report) : ∃ q, eqv Try.prog 20 65 (.agg #[Value.int .i64 a.Tester, Value.int .i64 a.Slot, Value.int .i64 a.Kind, Value.string a.Word]) (.agg #[Value.int .i64 b.Tester, Value.int .i64 b.Slot, Value.int .i64 b.Kind, Value.string b.Word]) = some q ∧ (q = true ↔ a = b) := by
  refine ⟨_, eqv_struct 19 Try.underlying65 rfl (by kernel_rfl) (eqf_cons rfl (apart_one st3 rfl) (apart_one st3 rfl) (eqv_int 18 Try.underlying3) (eqf_cons rfl (apart_one st3 rfl) (apart_one st3 rfl) (eqv_int 18 Try.underlying3) (eqf_cons rfl (apart_one st3 rfl) (apart_one st3 rfl) (eqv_int 18 Try.underlying3) (eqf_cons rfl (apart_one st9 rfl) (apart_one st9 rfl) (eqv_str 18 Try.underlying9) eqf_nil)))), ?_⟩
  obtain ⟨a0, a1, a2, a3⟩ := a
  obtain ⟨b0, b1, b2, b3⟩ := b
  simp
theorem beq65 (a b : D.Report) (xo yo : Operand) : ∃ q, abop Try.prog .eql 65 xo yo (.agg #[Value.int .i64 a.Tester, Value.int .i64 a.Slot, Value.int .i64 a.Kind, Value.string a.Word]) (.agg #[Value.int .i64 b.Tester, Value.int .i64 b.Slot, Value.int .i64 b.Kind, Value.string b.Word]) = some (.bool q) ∧ (q = true ↔ a = b) := by
  obtain ⟨q, h1, h2⟩ := eq65 a b
  exact ⟨q, abop_eql (by simp [closedV, closed1]) (by simp [closedV, closed1]) (by kernel_rfl) h1, h2⟩
theorem bne65 (a b : D.Report) (xo yo : Operand) : ∃ q, abop Try.prog .neq 65 xo yo (.agg #[Value.int .i64 a.Tester, Value.int .i64 a.Slot, Value.int .i64 a.Kind, Value.string a.Word]) (.agg #[Value.int .i64 b.Tester, Value.int .i64 b.Slot, Value.int .i64 b.Kind, Value.string b.Word]) = some (.bool (!q)) ∧ (q = true ↔ a = b) := by
  obtain ⟨q, h1, h2⟩ := eq65 a b
  exact ⟨q, abop_neq (by simp [closedV, closed1]) (by simp [closedV, closed1]) (by kernel_rfl) h1, h2⟩
theorem follows : Try.prog.follows .mixedOrders = true := by kernel_rfl
theorem plainProg : Plain Try.prog := by
  unfold Plain
  kernel_rfl
end Go.Proofs.Ytllkimgecapbgaa.AE
