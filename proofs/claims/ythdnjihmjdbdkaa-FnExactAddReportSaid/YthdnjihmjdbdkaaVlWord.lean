/- Words for printed walks. Conditions: none. -/
import Derived.Test.YthdnjihmjdbdkaaVlEnc
namespace Go.Proofs.Ythdnjihmjdbdkaa.AE
open Go Go.RowKit
set_option linter.unusedVariables false
set_option linter.unusedSimpArgs false
section
variable {call : CallT} {P : Program} {E : Env} {O : Objs} {d : Option Tmp} {ty tt s e xt : TypeId} {ps : String} {af : Array Edge} {g : Option (Nat × Bool)} {x y z : Operand} {t u w : T} {nx sz : Nat} {rows rows2 : List (List T)} {ks ks2 : List Nat} {k : IntKind} {a b : Int} {c : Bool} {n : Int} {xt : TypeId}
theorem B.add (hx : VEv E x (.int k a)) (hy : VEv E y (.int k b)) (he : k.wrap (a + b) = n) : OF call P E ⟨d, .binOp .add tt x y xt, ty, ps, af, g⟩ (.int k n) := he ▸ OF.bin hx hy (.int _ _) (.int _ _) (op_add ..) (.int _ _)
theorem B.sub (hx : VEv E x (.int k a)) (hy : VEv E y (.int k b)) (he : k.wrap (a - b) = n) : OF call P E ⟨d, .binOp .sub tt x y xt, ty, ps, af, g⟩ (.int k n) := he ▸ OF.bin hx hy (.int _ _) (.int _ _) (op_sub ..) (.int _ _)
theorem B.mul (hx : VEv E x (.int k a)) (hy : VEv E y (.int k b)) (he : k.wrap (a * b) = n) : OF call P E ⟨d, .binOp .mul tt x y xt, ty, ps, af, g⟩ (.int k n) := he ▸ OF.bin hx hy (.int _ _) (.int _ _) (op_mul ..) (.int _ _)
theorem B.quo (hx : VEv E x (.int k a)) (hy : VEv E y (.int k b)) (hb : b ≠ 0) (he : k.wrap (a.tdiv b) = n) : OF call P E ⟨d, .binOp .quo tt x y xt, ty, ps, af, g⟩ (.int k n) := he ▸ OF.bin hx hy (.int _ _) (.int _ _) (op_quo _ _ _ _ _ _ _ hb) (.int _ _)
theorem B.rem (hx : VEv E x (.int k a)) (hy : VEv E y (.int k b)) (hb : b ≠ 0) (he : a.tmod b = n) : OF call P E ⟨d, .binOp .rem tt x y xt, ty, ps, af, g⟩ (.int k n) := he ▸ OF.bin hx hy (.int _ _) (.int _ _) (op_rem _ _ _ _ _ _ _ hb) (.int _ _)
theorem B.lss (hx : VEv E x (.int k a)) (hy : VEv E y (.int k b)) (he : decide (a < b) = c) : OF call P E ⟨d, .binOp .lss tt x y xt, ty, ps, af, g⟩ (.bool c) := he ▸ OF.bin hx hy (.int _ _) (.int _ _) (op_lss ..) (.bool _)
theorem B.leq (hx : VEv E x (.int k a)) (hy : VEv E y (.int k b)) (he : decide (a ≤ b) = c) : OF call P E ⟨d, .binOp .leq tt x y xt, ty, ps, af, g⟩ (.bool c) := he ▸ OF.bin hx hy (.int _ _) (.int _ _) (op_leq ..) (.bool _)
theorem B.gtr (hx : VEv E x (.int k a)) (hy : VEv E y (.int k b)) (he : decide (b < a) = c) : OF call P E ⟨d, .binOp .gtr tt x y xt, ty, ps, af, g⟩ (.bool c) := he ▸ OF.bin hx hy (.int _ _) (.int _ _) (op_gtr ..) (.bool _)
theorem B.geq (hx : VEv E x (.int k a)) (hy : VEv E y (.int k b)) (he : decide (b ≤ a) = c) : OF call P E ⟨d, .binOp .geq tt x y xt, ty, ps, af, g⟩ (.bool c) := he ▸ OF.bin hx hy (.int _ _) (.int _ _) (op_geq ..) (.bool _)
theorem B.eql (hx : VEv E x (.int k a)) (hy : VEv E y (.int k b)) (he : decide (a = b) = c) : OF call P E ⟨d, .binOp .eql tt x y xt, ty, ps, af, g⟩ (.bool c) := he ▸ OF.bin hx hy (.int _ _) (.int _ _) (op_eql ..) (.bool _)
theorem B.neq (hx : VEv E x (.int k a)) (hy : VEv E y (.int k b)) (he : (!decide (a = b)) = c) : OF call P E ⟨d, .binOp .neq tt x y xt, ty, ps, af, g⟩ (.bool c) := he ▸ OF.bin hx hy (.int _ _) (.int _ _) (op_neq ..) (.bool _)
variable {s1 s2 s3 : ByteArray}
theorem B.seql (hx : VEv E x (.str s1)) (hy : VEv E y (.str s2)) (he : decide (s1 = s2) = c) : OF call P E ⟨d, .binOp .eql tt x y xt, ty, ps, af, g⟩ (.bool c) := he ▸ OF.bin hx hy (.str _) (.str _) (op_seql ..) (.bool _)
theorem B.sneq (hx : VEv E x (.str s1)) (hy : VEv E y (.str s2)) (he : (!decide (s1 = s2)) = c) : OF call P E ⟨d, .binOp .neq tt x y xt, ty, ps, af, g⟩ (.bool c) := he ▸ OF.bin hx hy (.str _) (.str _) (op_sneq ..) (.bool _)
theorem B.slss (hx : VEv E x (.str s1)) (hy : VEv E y (.str s2)) (he : Op.bytesLess s1.toList s2.toList = c) : OF call P E ⟨d, .binOp .lss tt x y xt, ty, ps, af, g⟩ (.bool c) := he ▸ OF.bin hx hy (.str _) (.str _) (op_slss ..) (.bool _)
theorem B.sgtr (hx : VEv E x (.str s1)) (hy : VEv E y (.str s2)) (he : (!(Op.bytesLess s1.toList s2.toList || decide (s1 = s2))) = c) : OF call P E ⟨d, .binOp .gtr tt x y xt, ty, ps, af, g⟩ (.bool c) := he ▸ OF.bin hx hy (.str _) (.str _) (op_sgtr ..) (.bool _)
theorem B.sadd (hx : VEv E x (.str s1)) (hy : VEv E y (.str s2)) (hl : s1.size + s2.size ≤ 9223372036854775807) : OF call P E ⟨d, .binOp .add tt x y xt, ty, ps, af, g⟩ (.str (s1 ++ s2)) := OF.bin hx hy (.str _) (.str _) (op_sadd _ _ _ _ _ _ hl) (.str _)
variable {b1 b2 : Bool}
theorem B.beql (hu : P.underlying tt = some .bool) (hx : VEv E x (.bool b1)) (hy : VEv E y (.bool b2)) (he : (b1 == b2) = c) : OF call P E ⟨d, .binOp .eql tt x y xt, ty, ps, af, g⟩ (.bool c) := he ▸ OF.bin hx hy (.bool _) (.bool _) (op_beql _ _ _ _ _ _ hu) (.bool _)
theorem B.bneq (hu : P.underlying tt = some .bool) (hx : VEv E x (.bool b1)) (hy : VEv E y (.bool b2)) (he : (!(b1 == b2)) = c) : OF call P E ⟨d, .binOp .neq tt x y xt, ty, ps, af, g⟩ (.bool c) := he ▸ OF.bin hx hy (.bool _) (.bool _) (op_bneq _ _ _ _ _ _ hu) (.bool _)
theorem B.not (hx : VEv E x (.bool b1)) (he : (!b1) = c) : OF call P E ⟨d, .unOp .not tt x, ty, ps, af, g⟩ (.bool c) := he ▸ OF.un hx (.bool _) (op_not ..) (.bool _)
theorem B.neg (hx : VEv E x (.int k a)) (he : k.wrap (0 - a) = n) : OF call P E ⟨d, .unOp .neg tt x, ty, ps, af, g⟩ (.int k n) := he ▸ OF.un hx (.int _ _) (op_neg ..) (.int _ _)
theorem B.max {ts : Array TypeId} (hx : VEv E x (.int k a)) (hy : VEv E y (.int k b)) (he : (if b > a then b else a) = n) : OF call P E ⟨d, .call ⟨.builtin .max, #[x, y], ts⟩, ty, ps, af, g⟩ (.int k n) := he ▸ OF.max hx hy
theorem B.min {ts : Array TypeId} (hx : VEv E x (.int k a)) (hy : VEv E y (.int k b)) (he : (if b < a then b else a) = n) : OF call P E ⟨d, .call ⟨.builtin .min, #[x, y], ts⟩, ty, ps, af, g⟩ (.int k n) := he ▸ OF.min hx hy
theorem B.pickB (hc : VEv E x (.bool b1)) (hy : VEv E y (.bool b2)) {b3 : Bool} (hz : VEv E z (.bool b3)) (he : (if b1 then b2 else b3) = c) : OF call P E ⟨d, .pick x y z, ty, ps, af, g⟩ (.bool c) := by
  have := OF.pick (call := call) (P := P) (d := d) (ty := ty) (ps := ps) (af := af) (g := g) hc hy hz
  subst he
  cases b1 <;> exact this
theorem B.index {st : ByteArray} {kk : IntKind} {j : Int} {i : Nat} (hx : VEv E x (.str st)) (hy : VEv E y (.int kk j)) (hj : j = i) (hi : i < st.size) (hu : P.underlying tt = some .string) (he : ((st[i]'hi).toNat : Int) = n) : OF call P E ⟨d, .index tt x y, ty, ps, af, g⟩ (.int .u8 n) := he ▸ OF.index hx hy hj hi hu
theorem B.box {ts : List T} (hx : VEv E x t) (ht : t ≠ .any) (hc : tcells t = ts) : OM call P E nx ⟨d, .box xt x, ty, ps, af, g⟩ (.op nx 0) (.cells ts) := hc ▸ OM.box hx ht
theorem B.alloc {ts : List T} {v : Value} (hz : zeroOf P tt = some v) (hcl : closedV v = true) (ht : t ≠ .any) (hv : ∀ hf, R hf t v) (hc : tcells t = ts) : OM call P E nx ⟨d, .alloc tt, ty, ps, af, g⟩ (.op nx 0) (.cells ts) := hc ▸ OM.alloc hz hcl ht hv
theorem B.fieldAddrR {j off : Nat} {ts us : List T} (hx : VEv E x (.rp ts)) (hn : off ≤ ts.length) (ha : ∀ k o, afieldAddr P tt (.pointer (some ⟨k, o, none⟩)) j = some (.pointer (some ⟨k, o + off, none⟩))) (hd : ts.drop off = us) : OF call P E ⟨d, .fieldAddr tt x j, ty, ps, af, g⟩ (.rp us) := hd ▸ OF.fieldAddrR hx hn ha
theorem B.storeO {k o : Nat} {ts us ws : List T} (hx : VEv E x (.op k o)) (hy : VEv E y t) (ht : t ≠ .any) (hk : gO O k = some (.cells ts)) (hus : tcells t = us) (hle : o + us.length ≤ ts.length) (hif : (P.info? tt).isSome = true) (hn : P.cellsOf tt = us.length) (hc : ∀ a ∈ us, isCell a = true) (hw : spl ts o us = ws) :
    OC call P E O nx ⟨d, .store tt x y, ty, ps, af, g⟩ .any ((k, some (.cells ws)) :: O) nx [k] := hw ▸ OC.storeO hx hy ht hk hus hle hif hn hc
theorem B.storeP {sz k i o : Nat} {rows rows' : List (List T)} {row us : List T} (hx : VEv E x (.orp sz k i o)) (hy : VEv E y t) (ht : t ≠ .any) (hk : gO O k = some (.rows sz rows)) (hi : rows[i]? = some row) (hus : tcells t = us) (hle : o + us.length ≤ sz) (hif : (P.info? tt).isSome = true) (hn : P.cellsOf tt = us.length) (hc : ∀ a ∈ us, isPl a = true) (hfl : ∀ r ∈ rows, ∀ a ∈ r, isFlat a = true) (hr : rows.set i (spl row o us) = rows') :
    OC call P E O nx ⟨d, .store tt x y, ty, ps, af, g⟩ .any ((k, some (.rows sz rows')) :: O) nx [k] := hr ▸ OC.storeP hx hy ht hk hi hus hle hif hn hc hfl
theorem B.indexAddrO {k n : Nat} {kk : IntKind} {j : Int} {i : Nat} (hx : VEv E x (.os sz k 0 n)) (hy : VEv E y (.int kk j)) (hj : j = i) (hi : i < n) (hu : P.underlying tt = some (.slice e)) (hn : P.cellsOf e = sz) (hif : (P.info? e).isSome = true) :
    OF call P E ⟨d, .indexAddr tt x y, ty, ps, af, g⟩ (.orp sz k i 0) := by
  have z := OF.indexAddrO (call := call) (d := d) (ty := ty) (ps := ps) (af := af) (g := g) hx hy hj hi hu hn hif
  rwa [Nat.zero_add] at z
variable {m : Nat}
theorem B.lenS {st : ByteArray} (hx : VEv E x (.str st)) (hu : P.underlying tt = some .string) : OL call P E O ⟨d, .call ⟨.builtin .len, #[x], #[tt]⟩, ty, ps, af, g⟩ (.int .i64 st.size) := OL.lenS hx hu
theorem B.lenR (hx : VEv E x (.sl false sz rows)) (hu : P.underlying tt = some (.slice e)) (he : rows.length = m) : OL call P E O ⟨d, .call ⟨.builtin .len, #[x], #[tt]⟩, ty, ps, af, g⟩ (.int .i64 (m : Nat)) := he ▸ OL.lenR hx hu
theorem B.lenO {k lo n : Nat} (hx : VEv E x (.os sz k lo n)) (hu : P.underlying tt = some (.slice e)) (he : n = m) : OL call P E O ⟨d, .call ⟨.builtin .len, #[x], #[tt]⟩, ty, ps, af, g⟩ (.int .i64 (m : Nat)) := he ▸ OL.lenO hx hu
theorem B.append {rows3 : List (List T)} (hx : VDst sz E O x rows ks) (hy : VSrc P xt sz E O y rows2 ks2) (hdis : ∀ k ∈ ks, k ∉ ks2) (hu : P.underlying tt = some (.slice e)) (hn : P.cellsOf e = sz) (hpos : 0 < sz) {z : Value} (hz : zeroOf P e = some z) (hzs : z.cells.size = sz) (hb : P.bytesOf e ≤ 128) (hlim : rows.length + rows2.length ≤ lim) (hr : rows ++ rows2 = rows3) :
    OC call P E O nx ⟨d, .call ⟨.builtin .append, #[x, y], #[tt, xt]⟩, ty, ps, af, g⟩ (.os sz nx 0 rows3.length) ((nx, some (.rows sz rows3)) :: killO (ks ++ ks2) O) (nx + 1) (ks ++ ks2) := hr ▸ OC.append hx hy hdis hu hn hpos hz hzs hb hlim
theorem B.make {n : Nat} {zr : List T} {z : Value} {j : Int} {rows : List (List T)} (hx : VEv E x (.int .i64 j)) (hy : VEv E y (.int .i64 j)) (hj : j = n) (hu : P.underlying tt = some (.slice e)) (hz : zeroOf P e = some z) (hcl : closedV z = true) (hs : z.cells.size = P.cellsOf e) (hp : 0 < P.cellsOf e) (hn : n ≤ lim) (hb : P.bytesOf e ≤ 256) (hzr : ∀ hf, RL hf zr z.cells.toList) (hsz : P.cellsOf e = sz) (hr : List.replicate n zr = rows) (hm : n = m) :
    OM call P E nx ⟨d, .makeSlice tt x y, ty, ps, af, g⟩ (.os sz nx 0 m) (.rows sz rows) := hm ▸ hr ▸ OM.makeSlice hx hy hj hu hz hcl hs hp hn hb hzr hsz
end
section
variable {K : Env → Objs → Nat → Prop} {Q : AX → Env → Objs → Nat → Prop} {E : Env} {O : Objs} {nx id j : Nat}
theorem vthn.n (h : K E O nx) : vthn K Q .normal E O nx := h
theorem vthn.r (h : Q .ret E O nx) : vthn K Q .ret E O nx := h
theorem vthn.e (h : Q (.exit id) E O nx) : vthn K Q (.exit id) E O nx := h
theorem vinB.n (h : Q .normal E O nx) : vinB id Q .normal E O nx := h
theorem vinB.r (h : Q .ret E O nx) : vinB id Q .ret E O nx := h
theorem vinB.e (h : Q .normal E O nx) : vinB id Q (.exit id) E O nx := by simp only [vinB, if_true]; exact h
theorem vinB.o (hn : (j == id) = false) (h : Q (.exit j) E O nx) : vinB id Q (.exit j) E O nx := by
  have : ¬ j = id := by simpa using hn
  simp only [vinB, if_neg this]; exact h
end
section
variable {call : CallT} {P : Program} {ops : Array Oper} {B : List (List Nat)} {l : List Oper} {E : Env} {O Ob : Objs} {nx nb i i' : Nat} {q : Bool} {al : List (Nat × Nat × Obj)} {fl : List Nat} {K : Env → Objs → Nat → Prop} {d : Option Tmp} {ty : TypeId} {ps : String} {af : Array Edge} {a : Tmp} {t : T} {c : Operand}
/-- A temporary is moved. -/
theorem mO (t : T) (h : gE E a = t) (hk : VRunO call P ops l (pE E d t) O nx K) : VRunO call P ops (⟨d, .move (.tmp a), ty, ps, af, none⟩ :: l) E O nx K := VRunO.free VWant.always (OF.move (VEv.tmp h)) hk
theorem aO (t : T) (h : gE E a = t) (hk : VRunO call P ops l (pE E d t) O nx K) : VRunO call P ops (⟨d, .assign (.tmp a), ty, ps, af, none⟩ :: l) E O nx K := VRunO.free VWant.always (OF.assign (VEv.tmp h)) hk
theorem mD (t : T) (h : gE E a = t) (hi : i + 1 = i') (hk : VRunD call P ops B l i' (pE E d t) O Ob nx nb q al fl K) : VRunD call P ops B (⟨d, .move (.tmp a), ty, ps, af, none⟩ :: l) i E O Ob nx nb q al fl K := VRunD.free hi VWant.always rfl (OF.move (VEv.tmp h)) hk
theorem fO {op : Op} (hx : OF call P E ⟨d, op, ty, ps, af, none⟩ t) (hk : VRunO call P ops l (pE E d t) O nx K) : VRunO call P ops (⟨d, op, ty, ps, af, none⟩ :: l) E O nx K := VRunO.free VWant.always hx hk
theorem lO {op : Op} (hx : OL call P E O ⟨d, op, ty, ps, af, none⟩ t) (hk : VRunO call P ops l (pE E d t) O nx K) : VRunO call P ops (⟨d, op, ty, ps, af, none⟩ :: l) E O nx K := VRunO.look VWant.always hx hk
theorem kO {op : Op} {obj : Obj} (hx : OM call P E nx ⟨d, op, ty, ps, af, none⟩ t obj) (hk : VRunO call P ops l (pE E d t) ((nx, some obj) :: O) (nx + 1) K) : VRunO call P ops (⟨d, op, ty, ps, af, none⟩ :: l) E O nx K := VRunO.make VWant.always hx hk
theorem cO {op : Op} {O' : Objs} {nx' : Nat} {ks : List Nat} (hx : OC call P E O nx ⟨d, op, ty, ps, af, none⟩ t O' nx' ks) (hk : VRunO call P ops l (pE E d t) O' nx' K) : VRunO call P ops (⟨d, op, ty, ps, af, none⟩ :: l) E O nx K := VRunO.chain VWant.always hx hk
theorem fD {op : Op} (hx : OF call P E ⟨d, op, ty, ps, af, none⟩ t) (hi : i + 1 = i') (hc : cls P op = .free) (hk : VRunD call P ops B l i' (pE E d t) O Ob nx nb q al fl K) : VRunD call P ops B (⟨d, op, ty, ps, af, none⟩ :: l) i E O Ob nx nb q al fl K := VRunD.free hi VWant.always hc hx hk
theorem lD {op : Op} (hx : OL call P E Ob ⟨d, op, ty, ps, af, none⟩ t) (hi : i + 1 = i') (hc : cls P op = .look) (hk : VRunD call P ops B l i' (pE E d t) O Ob nx nb q al fl K) : VRunD call P ops B (⟨d, op, ty, ps, af, none⟩ :: l) i E O Ob nx nb q al fl K := VRunD.look hi VWant.always hc hx hk
theorem nt {K1 : Env → Objs → Nat → Prop} {Q : AX → Env → Objs → Nat → Prop} (h : K1 E O nx) : VRunO call P ops [] E O nx (vthn K1 Q .normal) := VRunO.nil h
theorem sr {id : Nat} {y : Code} {Q : AX → Env → Objs → Nat → Prop} (hx : VRunO call P ops ops.toList E O nx (vthn (fun E' O' nx' => VRun call P y E' O' nx' Q) Q .normal)) : VRun call P (.seq (.region id ops false) y) E O nx Q := VRun.seq (VRun.region hx)
theorem sq {x y : Code} {Q : AX → Env → Objs → Nat → Prop} (hx : VRun call P x E O nx (vthn (fun E' O' nx' => VRun call P y E' O' nx' Q) Q)) : VRun call P (.seq x y) E O nx Q := VRun.seq hx
theorem rt {Q : AX → Env → Objs → Nat → Prop} (hq : Q .ret E O nx) : VRun call P .ret E O nx Q := VRun.ret hq
theorem sk {Q : AX → Env → Objs → Nat → Prop} (hq : Q .normal E O nx) : VRun call P .skip E O nx Q := VRun.skip hq
theorem tn {K1 : Env → Objs → Nat → Prop} {Q : AX → Env → Objs → Nat → Prop} (h : K1 E O nx) : vthn K1 Q .normal E O nx := h
theorem tr {K1 : Env → Objs → Nat → Prop} {Q : AX → Env → Objs → Nat → Prop} (h : Q .ret E O nx) : vthn K1 Q .ret E O nx := h
theorem tv (t : T) (h : gE E a = t) : VEv E (.tmp a) t := VEv.tmp h
end
theorem ndT {p : Prop} [Decidable p] (h : (!decide p) = true) : ¬ p := by simpa using h
theorem ndF {p : Prop} [Decidable p] (h : (!decide p) = false) : p := by simpa using h
theorem notT {b : Bool} (h : (!b) = true) : b = false := by simpa using h
theorem notF {b : Bool} (h : (!b) = false) : b = true := by simpa using h
theorem nkT {b : Bool} (h : b = true) : (!b) = false := by rw [h]; rfl
theorem nkF {b : Bool} (h : b = false) : (!b) = true := by rw [h]; rfl
abbrev mkO (l : List (Nat × Obj)) : Objs := l.map fun x => (x.1, some x.2)
def bAt (s : ByteArray) (i : Nat) : Int := if h : i < s.size then ((s[i]'h).toNat : Int) else 0
theorem bAt_eq {s : ByteArray} {i : Nat} (h : i < s.size) : ((s[i]'h).toNat : Int) = bAt s i := by unfold bAt; rw [dif_pos h]
theorem ball_nil {α : Type} {p : α → Prop} : ∀ x ∈ ([] : List α), p x := fun x hx => by cases hx
theorem ball_cons {α : Type} {p : α → Prop} {a : α} {l : List α} (h : p a) (hr : ∀ x ∈ l, p x) : ∀ x ∈ a :: l, p x := fun x hx => by
  rcases List.mem_cons.1 hx with rfl | hx
  · exact h
  · exact hr x hx
theorem decN {p q : Prop} [Decidable p] [Decidable q] (h : p ↔ q) : decide p = decide q := decide_eq_decide.2 h
theorem decNn {p q : Prop} [Decidable p] [Decidable q] (h : p ↔ q) : (!decide p) = !decide q := by rw [decide_eq_decide.2 h]
theorem set_mapE {α : Type} {l : List α} {e : α → List T} {i : Nat} {row : List T} {a : α} (h : row = e a) : (l.map e).set i row = (l.set i a).map e := by rw [h, List.map_set]
end Go.Proofs.Ythdnjihmjdbdkaa.AE
