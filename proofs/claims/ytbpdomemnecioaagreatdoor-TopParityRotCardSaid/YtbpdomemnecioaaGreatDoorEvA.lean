/- An evaluator of the model's code over a heap of its own: what runs (in continuation style, for the kernel). Own text. No condition of a claim. -/
import Derived.OrdersHeld
namespace Go.Proofs.YtbpdomemnecioaaGreatDoor.Ev
open Go
set_option linter.unusedVariables false
noncomputable section
abbrev R := Bool

/-! ### Trees of eight branches -/
inductive Fr (α : Type) where
  | mk (a b c d e f g h : α)
def Dt (α : Type) (d : Nat) : Type := Nat.rec α (fun _ t => Fr t) d
def sel8 {β : Type} (n : Nat) (a b c d e f g h : β) : β :=
  Nat.rec (motive := fun _ => β) a (fun n _ => Nat.rec (motive := fun _ => β) b (fun n _ => Nat.rec (motive := fun _ => β) c (fun n _ => Nat.rec (motive := fun _ => β) d (fun n _ => Nat.rec (motive := fun _ => β) e (fun n _ => Nat.rec (motive := fun _ => β) f (fun n _ => Nat.rec (motive := fun _ => β) g (fun _ _ => h) n) n) n) n) n) n) n
/-- A getter, a setter: closed ones are reckoned once. -/
structure Acc (σ α : Type) where
  run : (α → R) → σ → R
structure Pcc (σ α : Type) where
  run : α → (σ → R) → σ → R
def accG (α : Type) (d : Nat) : Nat → Acc (Dt α d) α :=
  Nat.rec (motive := fun d => Nat → Acc (Dt α d) α) (fun _ => ⟨fun f t => f t⟩)
    (fun d ih k => sel8 (Nat.div k (Nat.pow 8 d)) ⟨fun f (t : Fr (Dt α d)) => Fr.rec (motive := fun _ => R) (fun x _ _ _ _ _ _ _ => (ih (Nat.mod k (Nat.pow 8 d))).run f x) t⟩ ⟨fun f (t : Fr (Dt α d)) => Fr.rec (motive := fun _ => R) (fun _ x _ _ _ _ _ _ => (ih (Nat.mod k (Nat.pow 8 d))).run f x) t⟩ ⟨fun f (t : Fr (Dt α d)) => Fr.rec (motive := fun _ => R) (fun _ _ x _ _ _ _ _ => (ih (Nat.mod k (Nat.pow 8 d))).run f x) t⟩ ⟨fun f (t : Fr (Dt α d)) => Fr.rec (motive := fun _ => R) (fun _ _ _ x _ _ _ _ => (ih (Nat.mod k (Nat.pow 8 d))).run f x) t⟩ ⟨fun f (t : Fr (Dt α d)) => Fr.rec (motive := fun _ => R) (fun _ _ _ _ x _ _ _ => (ih (Nat.mod k (Nat.pow 8 d))).run f x) t⟩ ⟨fun f (t : Fr (Dt α d)) => Fr.rec (motive := fun _ => R) (fun _ _ _ _ _ x _ _ => (ih (Nat.mod k (Nat.pow 8 d))).run f x) t⟩ ⟨fun f (t : Fr (Dt α d)) => Fr.rec (motive := fun _ => R) (fun _ _ _ _ _ _ x _ => (ih (Nat.mod k (Nat.pow 8 d))).run f x) t⟩ ⟨fun f (t : Fr (Dt α d)) => Fr.rec (motive := fun _ => R) (fun _ _ _ _ _ _ _ x => (ih (Nat.mod k (Nat.pow 8 d))).run f x) t⟩) d
def pccG (α : Type) (d : Nat) : Nat → Pcc (Dt α d) α :=
  Nat.rec (motive := fun d => Nat → Pcc (Dt α d) α) (fun _ => ⟨fun v f _ => f v⟩)
    (fun d ih k => sel8 (Nat.div k (Nat.pow 8 d)) ⟨fun v f (t : Fr (Dt α d)) => Fr.rec (motive := fun _ => R) (fun a b c d_ e f_ g h => (ih (Nat.mod k (Nat.pow 8 d))).run v (fun x => f ⟨x, b, c, d_, e, f_, g, h⟩) a) t⟩ ⟨fun v f (t : Fr (Dt α d)) => Fr.rec (motive := fun _ => R) (fun a b c d_ e f_ g h => (ih (Nat.mod k (Nat.pow 8 d))).run v (fun x => f ⟨a, x, c, d_, e, f_, g, h⟩) b) t⟩ ⟨fun v f (t : Fr (Dt α d)) => Fr.rec (motive := fun _ => R) (fun a b c d_ e f_ g h => (ih (Nat.mod k (Nat.pow 8 d))).run v (fun x => f ⟨a, b, x, d_, e, f_, g, h⟩) c) t⟩ ⟨fun v f (t : Fr (Dt α d)) => Fr.rec (motive := fun _ => R) (fun a b c d_ e f_ g h => (ih (Nat.mod k (Nat.pow 8 d))).run v (fun x => f ⟨a, b, c, x, e, f_, g, h⟩) d_) t⟩ ⟨fun v f (t : Fr (Dt α d)) => Fr.rec (motive := fun _ => R) (fun a b c d_ e f_ g h => (ih (Nat.mod k (Nat.pow 8 d))).run v (fun x => f ⟨a, b, c, d_, x, f_, g, h⟩) e) t⟩ ⟨fun v f (t : Fr (Dt α d)) => Fr.rec (motive := fun _ => R) (fun a b c d_ e f_ g h => (ih (Nat.mod k (Nat.pow 8 d))).run v (fun x => f ⟨a, b, c, d_, e, x, g, h⟩) f_) t⟩ ⟨fun v f (t : Fr (Dt α d)) => Fr.rec (motive := fun _ => R) (fun a b c d_ e f_ g h => (ih (Nat.mod k (Nat.pow 8 d))).run v (fun x => f ⟨a, b, c, d_, e, f_, x, h⟩) g) t⟩ ⟨fun v f (t : Fr (Dt α d)) => Fr.rec (motive := fun _ => R) (fun a b c d_ e f_ g h => (ih (Nat.mod k (Nat.pow 8 d))).run v (fun x => f ⟨a, b, c, d_, e, f_, g, x⟩) h) t⟩) d
def acc (α : Type) (d k : Nat) : Acc (Dt α d) α := Bool.rec ⟨fun _ _ => false⟩ (accG α d k) (Nat.blt k (Nat.pow 8 d))
def pcc (α : Type) (d k : Nat) : Pcc (Dt α d) α := Bool.rec ⟨fun _ _ _ => false⟩ (pccG α d k) (Nat.blt k (Nat.pow 8 d))
def dflt {α : Type} (x : α) (d : Nat) : Dt α d := Nat.rec (motive := fun d => Dt α d) x (fun _ t => Fr.mk t t t t t t t t) d

/-! ### Values, blocks, the heap -/
inductive AV where
  | un | ub | ui (k : IntKind)
  /-- bx: the byte n, changed by what is not known, moved on by c. ne: a number that is not n. rg: a number that stands, in the kind's order, at lo .. lo + n - 1 (n = 0: any). -/
  | bx (n c : Nat) | ne (k : IntKind) (n : Nat) | rg (k : IntKind) (lo n : Nat)
  | f0 | if0 | m0 | p0 | sl0
  | f (fn : Fn) (first cap : List AV)
  | ifc (t : Nat) (v : AV)
  | m (r : Nat)
  | tu (l : List AV)
  | ag (l : List AV)
  | s (l : List Nat)
  | sl (b o n c : Nat)
  | p (b o : Nat)
  | b (x : Bool)
  | i (k : IntKind) (n : Nat)
inductive ME where
  | mk (k v : AV) (born : Nat)
inductive Blk where
  | no
  | it (m : Option Nat) (since : Nat) (seen : List Nat) (last : Nat)
  | mp (es : List ME) (clock : Nat)
  | c (d : Nat) (t : Dt AV d) (n z : Nat)
abbrev Ht := Dt Blk 5
inductive H where
  | mk (t : Ht) (nx : Nat)
abbrev T := Dt AV 3
abbrev KT := T → H → R
abbrev CH := Nat → List AV → H → (AV → H → R) → R
abbrev Gt := Acc T AV
abbrev Pt := Pcc T AV
structure Vo where
  run : T → H → (AV → R) → R
structure Cl where
  run : CH → T → H → KT → R
structure CC where
  run : CH → (Nat → KT) → KT → T → H → KT → R
structure FF where
  run : CH → List AV → H → (AV → H → R) → R

def onI (f : IntKind → Nat → R) (x : AV) : R := AV.rec (motive_1 := fun _ => R) (motive_2 := fun _ => Unit) false false (fun _ => false) (fun _ _ => false) (fun _ _ => false) (fun _ _ _ => false) false false false false false (fun _ _ _ _ _ => false) (fun _ _ _ => false) (fun _ => false) (fun _ _ => false) (fun _ _ => false) (fun _ => false) (fun _ _ _ _ => false) (fun _ _ => false) (fun _ => false) f () (fun _ _ _ _ => ()) x
def onP (f : Nat → Nat → R) (x : AV) : R := AV.rec (motive_1 := fun _ => R) (motive_2 := fun _ => Unit) false false (fun _ => false) (fun _ _ => false) (fun _ _ => false) (fun _ _ _ => false) false false false false false (fun _ _ _ _ _ => false) (fun _ _ _ => false) (fun _ => false) (fun _ _ => false) (fun _ _ => false) (fun _ => false) (fun _ _ _ _ => false) f (fun _ => false) (fun _ _ => false) () (fun _ _ _ _ => ()) x
def onB (f : Bool → R) (x : AV) : R := AV.rec (motive_1 := fun _ => R) (motive_2 := fun _ => Unit) false false (fun _ => false) (fun _ _ => false) (fun _ _ => false) (fun _ _ _ => false) false false false false false (fun _ _ _ _ _ => false) (fun _ _ _ => false) (fun _ => false) (fun _ _ => false) (fun _ _ => false) (fun _ => false) (fun _ _ _ _ => false) (fun _ _ => false) f (fun _ _ => false) () (fun _ _ _ _ => ()) x
/-- u: at a Bool that is not known. -/
def onBu (u : R) (f : Bool → R) (x : AV) : R := AV.rec (motive_1 := fun _ => R) (motive_2 := fun _ => Unit) false u (fun _ => false) (fun _ _ => false) (fun _ _ => false) (fun _ _ _ => false) false false false false false (fun _ _ _ _ _ => false) (fun _ _ _ => false) (fun _ => false) (fun _ _ => false) (fun _ _ => false) (fun _ => false) (fun _ _ _ _ => false) (fun _ _ => false) f (fun _ _ => false) () (fun _ _ _ _ => ()) x
def onSl (f : Nat → Nat → Nat → Nat → R) (x : AV) : R := AV.rec (motive_1 := fun _ => R) (motive_2 := fun _ => Unit) false false (fun _ => false) (fun _ _ => false) (fun _ _ => false) (fun _ _ _ => false) false false false false false (fun _ _ _ _ _ => false) (fun _ _ _ => false) (fun _ => false) (fun _ _ => false) (fun _ _ => false) (fun _ => false) f (fun _ _ => false) (fun _ => false) (fun _ _ => false) () (fun _ _ _ _ => ()) x
def onS (f : List Nat → R) (x : AV) : R := AV.rec (motive_1 := fun _ => R) (motive_2 := fun _ => Unit) false false (fun _ => false) (fun _ _ => false) (fun _ _ => false) (fun _ _ _ => false) false false false false false (fun _ _ _ _ _ => false) (fun _ _ _ => false) (fun _ => false) (fun _ _ => false) (fun _ _ => false) f (fun _ _ _ _ => false) (fun _ _ => false) (fun _ => false) (fun _ _ => false) () (fun _ _ _ _ => ()) x
def onTu (f : List AV → R) (x : AV) : R := AV.rec (motive_1 := fun _ => R) (motive_2 := fun _ => Unit) false false (fun _ => false) (fun _ _ => false) (fun _ _ => false) (fun _ _ _ => false) false false false false false (fun _ _ _ _ _ => false) (fun _ _ _ => false) (fun _ => false) (fun y0 _ => f y0) (fun _ _ => false) (fun _ => false) (fun _ _ _ _ => false) (fun _ _ => false) (fun _ => false) (fun _ _ => false) () (fun _ _ _ _ => ()) x
def onAg (f : List AV → R) (x : AV) : R := AV.rec (motive_1 := fun _ => R) (motive_2 := fun _ => Unit) false false (fun _ => false) (fun _ _ => false) (fun _ _ => false) (fun _ _ _ => false) false false false false false (fun _ _ _ _ _ => false) (fun _ _ _ => false) (fun _ => false) (fun _ _ => false) (fun y0 _ => f y0) (fun _ => false) (fun _ _ _ _ => false) (fun _ _ => false) (fun _ => false) (fun _ _ => false) () (fun _ _ _ _ => ()) x
def onH (f : Ht → Nat → R) (h : H) : R := H.rec (motive := fun _ => R) f h
def onC (f : (d : Nat) → Dt AV d → Nat → Nat → R) (x : Blk) : R := Blk.rec (motive := fun _ => R) false (fun _ _ _ _ => false) (fun _ _ => false) f x
def onMp (f : List ME → Nat → R) (x : Blk) : R := Blk.rec (motive := fun _ => R) false (fun _ _ _ _ => false) f (fun _ _ _ _ => false) x
/-- A number, reckoned out. -/
def fc (f : Nat → R) (x : Nat) : R := Nat.rec (motive := fun _ => R) false (fun m _ => f m) (Nat.add x 1)
/-- A test. -/
def gd (x : Bool) (r : R) : R := Bool.rec (motive := fun _ => R) false r x

/-! ### Kinds of numbers -/
def kc (k : IntKind) : Nat := IntKind.rec (motive := fun _ => Nat) 0 1 2 3 4 5 6 7 k
/-- 2 ^ bits -/
def md (k : IntKind) : Nat := IntKind.rec (motive := fun _ => Nat) 256 65536 4294967296 18446744073709551616 256 65536 4294967296 18446744073709551616 k
/-- What is added so that order is the order of naturals. -/
def hf (k : IntKind) : Nat := IntKind.rec (motive := fun _ => Nat) 128 32768 2147483648 9223372036854775808 0 0 0 0 k
def keq (k j : IntKind) (r : R) : R := gd (Nat.beq (kc k) (kc j)) r

/-! ### Operands -/
def gbad : Gt := ⟨fun _ _ => false⟩
def toB (bs : ByteArray) : List Nat := bs.data.toList.map UInt8.toNat
def ofV0 (v : Value) : AV :=
  match v with
  | .bool b => .b b
  | .int k n => if k.wrap n = n then .i k (n % (md k : Int)).toNat else .un
  | .string s => .s (toB s)
  | .pointer none => .p0
  | .slice none 0 0 => .sl0
  | .map none => .m0
  | .nilFunc => .f0
  | .nilIface => .if0
  | _ => .un
def ofV (v : Value) : AV :=
  match v with
  | .agg cs => .ag (cs.toList.map ofV0)
  | v => ofV0 v
def gt (o : Operand) : Gt :=
  match o with
  | .tmp n => acc AV 3 n
  | .const v => ⟨fun f _ => f (ofV v)⟩
  | .global _ => gbad
  | .func g => ⟨fun f _ => f (.f (.func g) [] [])⟩
def pt (d : Option Nat) : Pt :=
  match d with
  | none => ⟨fun _ f t => f t⟩
  | some d => pcc AV 3 d
/-- Many operands. -/
structure Ga where
  run : (List AV → R) → T → R
def gts (l : List Operand) : Ga := List.rec (motive := fun _ => Ga) ⟨fun f _ => f []⟩ (fun o _ ih => ⟨fun f t => (gt o).run (fun v => ih.run (fun vs => f (v :: vs)) t) t⟩) l

/-! ### Values of values -/
structure V1 where
  run : AV → (AV → R) → R
structure V2 where
  run : AV → AV → (AV → R) → R
def bad1 : V1 := ⟨fun _ _ => false⟩
def bad2 : V2 := ⟨fun _ _ _ => false⟩
def badO : Vo := ⟨fun _ _ _ => false⟩
def badC : Cl := ⟨fun _ _ _ _ => false⟩
def vo0 (v : AV) : Vo := ⟨fun _ _ f => f v⟩
def vo1 (x : Operand) (g : V1) : Vo := ⟨fun t _ f => (gt x).run (fun v => g.run v f) t⟩
def vo2 (x y : Operand) (g : V2) : Vo := ⟨fun t _ f => (gt x).run (fun v => (gt y).run (fun u => g.run v u f) t) t⟩
/-- Two numbers of one kind; u: one of them is not known. -/
def onII (u : IntKind → R) (f : IntKind → Nat → Nat → R) (x y : AV) : R :=
  AV.rec (motive_1 := fun _ => R) (motive_2 := fun _ => Unit) false false (fun k => AV.rec (motive_1 := fun _ => R) (motive_2 := fun _ => Unit) false false (fun j => keq k j (u k)) (fun _ _ => false) (fun _ _ => false) (fun _ _ _ => false) false false false false false (fun _ _ _ _ _ => false) (fun _ _ _ => false) (fun _ => false) (fun _ _ => false) (fun _ _ => false) (fun _ => false) (fun _ _ _ _ => false) (fun _ _ => false) (fun _ => false) (fun j b => keq k j (u k)) () (fun _ _ _ _ => ()) y) (fun _ _ => false) (fun _ _ => false) (fun _ _ _ => false) false false false false false (fun _ _ _ _ _ => false) (fun _ _ _ => false) (fun _ => false) (fun _ _ => false) (fun _ _ => false) (fun _ => false) (fun _ _ _ _ => false) (fun _ _ => false) (fun _ => false) (fun k a => AV.rec (motive_1 := fun _ => R) (motive_2 := fun _ => Unit) false false (fun j => keq k j (u k)) (fun _ _ => false) (fun _ _ => false) (fun _ _ _ => false) false false false false false (fun _ _ _ _ _ => false) (fun _ _ _ => false) (fun _ => false) (fun _ _ => false) (fun _ _ => false) (fun _ => false) (fun _ _ _ _ => false) (fun _ _ => false) (fun _ => false) (fun j b => keq k j (f k a b)) () (fun _ _ _ _ => ()) y) () (fun _ _ _ _ => ()) x
def fi (k : IntKind) (f : AV → R) (n : Nat) : R := fc (fun n => f (.i k n)) n
def arith (g : IntKind → Nat → Nat → Nat) : V2 := ⟨fun x y f => onII (fun k => f (.ui k)) (fun k a b => fi k f (g k a b)) x y⟩
def cmpI (g : IntKind → Nat → Nat → Bool) (x y : AV) (f : AV → R) : R := onII (fun _ => f .ub) (fun k a b => f (.b (g k a b))) x y
def sx (k : IntKind) (a : Nat) : Nat := Nat.mod (Nat.add a (hf k)) (md k)
/-- a / b, a % b of numbers that are not negative. -/
def divs (g : Nat → Nat → Nat) : V2 :=
  ⟨fun x y f => onII (fun _ => false) (fun k a b => gd (Nat.ble (hf k) (sx k a)) (gd (Nat.ble (hf k) (sx k b)) (gd (Nat.blt 0 b) (fi k f (g a b))))) x y⟩
def shl2 : V2 := ⟨fun x y f => onI (fun k a => onI (fun j b => gd (Nat.ble (hf j) (sx j b)) (gd (Nat.blt b 64) (fi k f (Nat.mod (Nat.shiftLeft a b) (md k))))) y) x⟩
def shr2 : V2 := ⟨fun x y f => onI (fun k a => onI (fun j b => gd (Nat.ble (hf k) (sx k a)) (gd (Nat.ble (hf j) (sx j b)) (gd (Nat.blt b 64) (fi k f (Nat.shiftRight a b))))) y) x⟩
/-- Lists of numbers. -/
def leq (l : List Nat) : List Nat → Bool :=
  List.rec (motive := fun _ => List Nat → Bool) (fun m => List.rec (motive := fun _ => Bool) true (fun _ _ _ => false) m)
    (fun a _ ih m => List.rec (motive := fun _ => Bool) false (fun b m _ => Bool.rec false (ih m) (Nat.beq a b)) m) l
def lless (l : List Nat) : List Nat → Bool :=
  List.rec (motive := fun _ => List Nat → Bool) (fun m => List.rec (motive := fun _ => Bool) false (fun _ _ _ => true) m)
    (fun a _ ih m => List.rec (motive := fun _ => Bool) false (fun b m _ => Bool.rec (Bool.rec false (ih m) (Nat.beq a b)) true (Nat.blt a b)) m) l
def lapp {α : Type} (l m : List α) : List α := List.rec (motive := fun _ => List α) m (fun a _ ih => a :: ih) l
def llen {α : Type} (l : List α) : Nat := List.rec (motive := fun _ => Nat) 0 (fun _ _ ih => Nat.add ih 1) l
def nt (x : Bool) : Bool := Bool.rec true false x
def beqB (x y : Bool) : Bool := Bool.rec (nt y) y x
def isNilP : V1 := ⟨fun x f => AV.rec (motive_1 := fun _ => R) (motive_2 := fun _ => Unit) false false (fun _ => false) (fun _ _ => false) (fun _ _ => false) (fun _ _ _ => false) false false false (f (.b true)) false (fun _ _ _ _ _ => false) (fun _ _ _ => false) (fun _ => false) (fun _ _ => false) (fun _ _ => false) (fun _ => false) (fun _ _ _ _ => false) (fun _ _ => f (.b false)) (fun _ => false) (fun _ _ => false) () (fun _ _ _ _ => ()) x⟩
def isNilS : V1 := ⟨fun x f => AV.rec (motive_1 := fun _ => R) (motive_2 := fun _ => Unit) false false (fun _ => false) (fun _ _ => false) (fun _ _ => false) (fun _ _ _ => false) false false false false (f (.b true)) (fun _ _ _ _ _ => false) (fun _ _ _ => false) (fun _ => false) (fun _ _ => false) (fun _ _ => false) (fun _ => false) (fun _ _ _ _ => f (.b false)) (fun _ _ => false) (fun _ => false) (fun _ _ => false) () (fun _ _ _ _ => ()) x⟩
def isNilM : V1 := ⟨fun x f => AV.rec (motive_1 := fun _ => R) (motive_2 := fun _ => Unit) false false (fun _ => false) (fun _ _ => false) (fun _ _ => false) (fun _ _ _ => false) false false (f (.b true)) false false (fun _ _ _ _ _ => false) (fun _ _ _ => false) (fun _ => f (.b false)) (fun _ _ => false) (fun _ _ => false) (fun _ => false) (fun _ _ _ _ => false) (fun _ _ => false) (fun _ => false) (fun _ _ => false) () (fun _ _ _ _ => ()) x⟩
def isNilF : V1 := ⟨fun x f => AV.rec (motive_1 := fun _ => R) (motive_2 := fun _ => Unit) false false (fun _ => false) (fun _ _ => false) (fun _ _ => false) (fun _ _ _ => false) (f (.b true)) false false false false (fun y0 y1 y2 _ _ => (fun _ _ _ => f (.b false)) y0 y1 y2) (fun _ _ _ => false) (fun _ => false) (fun _ _ => false) (fun _ _ => false) (fun _ => false) (fun _ _ _ _ => false) (fun _ _ => false) (fun _ => false) (fun _ _ => false) () (fun _ _ _ _ => ()) x⟩
def isNilI : V1 := ⟨fun x f => AV.rec (motive_1 := fun _ => R) (motive_2 := fun _ => Unit) false false (fun _ => false) (fun _ _ => false) (fun _ _ => false) (fun _ _ _ => false) false (f (.b true)) false false false (fun _ _ _ _ _ => false) (fun y0 y1 _ => (fun _ _ => f (.b false)) y0 y1) (fun _ => false) (fun _ _ => false) (fun _ _ => false) (fun _ => false) (fun _ _ _ _ => false) (fun _ _ => false) (fun _ => false) (fun _ _ => false) () (fun _ _ _ _ => ()) x⟩
def not1 : V1 := ⟨fun x f => onBu (f .ub) (fun x => f (.b (nt x))) x⟩

/-! ### Reads and writes -/
def ldc (h : H) (b o : Nat) (f : AV → R) : R := onH (fun ht _ => (acc Blk 5 b).run (onC (fun d tr n _ => gd (Nat.blt o n) ((acc AV d o).run f tr))) ht) h
def stc (h : H) (b o : Nat) (v : AV) (f : H → R) : R :=
  onH (fun ht nx => (acc Blk 5 b).run (onC (fun d tr n z => gd (Nat.blt o n) ((pcc AV d o).run v (fun tr => (pcc Blk 5 b).run (.c d tr n z) (fun ht => f (.mk ht nx)) ht) tr))) ht) h
/-- m cells from o on. -/
def rdl (d : Nat) (tr : Dt AV d) (m : Nat) : Nat → (List AV → R) → R :=
  Nat.rec (motive := fun _ => Nat → (List AV → R) → R) (fun _ f => f []) (fun _ ih o f => (acc AV d o).run (fun v => fc (fun o => ih o (fun vs => f (v :: vs))) (Nat.add o 1)) tr) m
def wrl (d : Nat) (l : List AV) : Nat → Dt AV d → (Dt AV d → R) → R :=
  List.rec (motive := fun _ => Nat → Dt AV d → (Dt AV d → R) → R) (fun _ t f => f t) (fun v _ ih o t f => (pcc AV d o).run v (fun t => fc (fun o => ih o t f) (Nat.add o 1)) t) l
def lds (h : H) (b o m : Nat) (f : List AV → R) : R := onH (fun ht _ => (acc Blk 5 b).run (onC (fun d tr n _ => gd (Nat.ble (Nat.add o m) n) (rdl d tr m o f))) ht) h
def sts (h : H) (b o : Nat) (l : List AV) (f : H → R) : R :=
  onH (fun ht nx => (acc Blk 5 b).run (onC (fun d tr n z => gd (Nat.ble (Nat.add o (llen l)) n) (wrl d l o tr (fun tr => (pcc Blk 5 b).run (.c d tr n z) (fun ht => f (.mk ht nx)) ht)))) ht) h
def new (h : H) (k : Blk) (f : Nat → H → R) : R := onH (fun ht nx => (pcc Blk 5 nx).run k (fun ht => fc (fun m => f nx (.mk ht m)) (Nat.add nx 1)) ht) h
def flat (r : R) (x : AV) : R := AV.rec (motive_1 := fun _ => R) (motive_2 := fun _ => Unit) false r (fun _ => r) (fun _ _ => r) (fun _ _ => r) (fun _ _ _ => r) r r r r r (fun y0 y1 y2 _ _ => (fun _ _ _ => r) y0 y1 y2) (fun y0 y1 _ => (fun _ _ => r) y0 y1) (fun _ => r) (fun _ _ => false) (fun _ _ => false) (fun _ => r) (fun _ _ _ _ => r) (fun _ _ => r) (fun _ => r) (fun _ _ => r) () (fun _ _ _ _ => ()) x
def flats (r : R) (l : List AV) : R := List.rec (motive := fun _ => R) r (fun x _ ih => flat ih x) l
/-- The cells of a value. -/
def cellsA (x : AV) (f : List AV → R) : R := AV.rec (motive_1 := fun _ => R) (motive_2 := fun _ => Unit) false (f [.ub]) (fun a0 => f [.ui a0]) (fun a0 a1 => f [.bx a0 a1]) (fun a0 a1 => f [.ne a0 a1]) (fun a0 a1 a2 => f [.rg a0 a1 a2]) (f [.f0]) (f [.if0]) (f [.m0]) (f [.p0]) (f [.sl0]) (fun y0 y1 y2 _ _ => (fun a0 a1 a2 => f [.f a0 a1 a2]) y0 y1 y2) (fun y0 y1 _ => (fun a0 a1 => f [.ifc a0 a1]) y0 y1) (fun a0 => f [.m a0]) (fun _ _ => false) (fun y0 _ => (fun l => flats (f l) l) y0) (fun a0 => f [.s a0]) (fun a0 a1 a2 a3 => f [.sl a0 a1 a2 a3]) (fun a0 a1 => f [.p a0 a1]) (fun a0 => f [.b a0]) (fun a0 a1 => f [.i a0 a1]) () (fun _ _ _ _ => ()) x
/-- How deep a tree of n cells is. -/
def dOf (n : Nat) : Nat := Bool.rec (Bool.rec (Bool.rec (Bool.rec (Bool.rec 6 5 (Nat.ble n 32768)) 4 (Nat.ble n 4096)) 3 (Nat.ble n 512)) 2 (Nat.ble n 64)) 1 (Nat.ble n 8)
def mkBlk (z : Nat) (l : List AV) (f : Blk → R) : R := fc (fun n => fc (fun d => wrl d l 0 (dflt .un d) (fun t => f (.c d t n z))) (dOf n)) (llen l)
def lrep {α : Type} (x : List α) (n : Nat) : List α := Nat.rec (motive := fun _ => List α) [] (fun _ ih => lapp x ih) n
/-- A tree, plainly (for closed ones). -/
def Fr.put {α : Type} (i : Nat) (v : α) (t : Fr α) : Fr α := Fr.rec (motive := fun _ => Fr α) (fun a b c d e f g h => sel8 i ⟨v, b, c, d, e, f, g, h⟩ ⟨a, v, c, d, e, f, g, h⟩ ⟨a, b, v, d, e, f, g, h⟩ ⟨a, b, c, v, e, f, g, h⟩ ⟨a, b, c, d, v, f, g, h⟩ ⟨a, b, c, d, e, v, g, h⟩ ⟨a, b, c, d, e, f, v, h⟩ ⟨a, b, c, d, e, f, g, v⟩) t
def Fr.get {α : Type} (i : Nat) (t : Fr α) : α := Fr.rec (motive := fun _ => α) (fun a b c d e f g h => sel8 i a b c d e f g h) t
def put {α : Type} (d : Nat) : Nat → α → Dt α d → Dt α d :=
  Nat.rec (motive := fun d => Nat → α → Dt α d → Dt α d) (fun _ v _ => v) (fun d ih k v t => Fr.put (Nat.div k (Nat.pow 8 d)) (ih (Nat.mod k (Nat.pow 8 d)) v (Fr.get (Nat.div k (Nat.pow 8 d)) t)) t) d
def get {α : Type} (d : Nat) : Nat → Dt α d → α :=
  Nat.rec (motive := fun d => Nat → Dt α d → α) (fun _ t => t) (fun d ih k t => ih (Nat.mod k (Nat.pow 8 d)) (Fr.get (Nat.div k (Nat.pow 8 d)) t)) d
def putl (d : Nat) (l : List AV) : Nat → Dt AV d → Dt AV d :=
  List.rec (motive := fun _ => Nat → Dt AV d → Dt AV d) (fun _ t => t) (fun v _ ih o t => ih (Nat.add o 1) (put d o v t)) l
def blkC (z : Nat) (l : List AV) : Blk := .c (dOf (llen l)) (putl (dOf (llen l)) l 0 (dflt .un (dOf (llen l)))) (llen l) z

/-! ### Operations -/
def voC (g : Vo) (d : Pt) : Cl := ⟨fun _ t h k => g.run t h (fun v => d.run v (fun t => k t h) t)⟩
def xneg (n x : Bool) : Bool := Bool.rec x (nt x) n
def isAggD (d : TypeDesc) : Bool :=
  match d with
  | .struct _ | .array _ _ => true
  | _ => false
/-- Cells of a variable of the type: none: one cell; some n: n cells together. -/
def shapeOf (P : Program) (t : Nat) : Option (Option Nat) :=
  match P.underlying t, P.info? t with
  | some d, some i => if isAggD d then some (some i.size) else some none
  | _, _ => none
def szOf (P : Program) (t : Nat) : Option Nat := (P.info? t).map (·.size)
/-- A value of the type beside the constant nil. -/
def nilV (d : Option TypeDesc) (c : Value) : V1 :=
  match d, c with
  | some (.pointer _), .pointer none => isNilP
  | some (.slice _), .slice none _ _ => isNilS
  | some (.map _ _), .map none => isNilM
  | some (.func _ _ _), .nilFunc => isNilF
  | some (.interface _), .nilIface => isNilI
  | _, _ => bad1
/-- The kinds of cells that == reckons with. -/
def plainD (d : Option TypeDesc) : Bool :=
  match d with
  | some (.int _) | some .string | some .bool => true
  | _ => false
/-- Kinds of cells: 1: numbers, 2: strings, 3: Bools. -/
def dcode (d : Option TypeDesc) : Nat :=
  match d with
  | some (.int _) => 1
  | some .string => 2
  | some .bool => 3
  | _ => 0
def eqF (c : Nat) (x y : AV) (f : Bool → R) : R :=
  sel8 c false (onI (fun k a => onI (fun j b => keq k j (f (Nat.beq a b))) y) x) (onS (fun l => onS (fun m => f (leq l m)) y) x) (onB (fun a => onB (fun b => f (beqB a b)) y) x) false false false false
def eqL (cs : List Nat) : List AV → List AV → (Bool → R) → R :=
  List.rec (motive := fun _ => List AV → List AV → (Bool → R) → R) (fun _ _ f => f true)
    (fun c _ ih l m f => List.rec (motive := fun _ => R) false (fun x l _ => List.rec (motive := fun _ => R) false (fun y m _ => eqF c x y (fun e => ih l m (fun r => f (Bool.rec false r e)))) m) l) cs
def offsOk : Nat → List Field → Bool
  | _, [] => true
  | n, f :: fs => f.offset == n && offsOk (n + 1) fs
/-- A struct all of whose fields are plain, in a row. -/
def plainS (P : Program) (t : Nat) (fs : Array Field) : Bool :=
  fs.toList.all (fun f => plainD (P.underlying f.type) && f.name != "_") && offsOk 0 fs.toList && !P.stoodInHeld t && !P.eqGuardType P.depth t
/-- A number beside one that is not known whole. -/
def eqI (neg : Bool) (a b : AV) (f : AV → R) : R :=
  AV.rec (motive_1 := fun _ => R) (motive_2 := fun _ => Unit) (cmpI (fun _ a b => xneg neg (Nat.beq a b)) a b f) (cmpI (fun _ a b => xneg neg (Nat.beq a b)) a b f) (fun _ => (cmpI (fun _ a b => xneg neg (Nat.beq a b)) a b f)) (fun n c => onI (fun k m => keq k .u8 (gd (Nat.beq n 0) (gd (Nat.beq c 0) (gd (Nat.beq m 0) (f (.b (xneg neg false))))))) b) (fun j n => onI (fun k m => keq k j (gd (Nat.beq n m) (f (.b (xneg neg false))))) b) (fun j lo n => onI (fun k m => keq k j (f .ub)) b) (cmpI (fun _ a b => xneg neg (Nat.beq a b)) a b f) (cmpI (fun _ a b => xneg neg (Nat.beq a b)) a b f) (cmpI (fun _ a b => xneg neg (Nat.beq a b)) a b f) (cmpI (fun _ a b => xneg neg (Nat.beq a b)) a b f) (cmpI (fun _ a b => xneg neg (Nat.beq a b)) a b f) (fun _ _ _ _ _ => (cmpI (fun _ a b => xneg neg (Nat.beq a b)) a b f)) (fun _ _ _ => (cmpI (fun _ a b => xneg neg (Nat.beq a b)) a b f)) (fun _ => (cmpI (fun _ a b => xneg neg (Nat.beq a b)) a b f)) (fun _ _ => (cmpI (fun _ a b => xneg neg (Nat.beq a b)) a b f)) (fun _ _ => (cmpI (fun _ a b => xneg neg (Nat.beq a b)) a b f)) (fun _ => (cmpI (fun _ a b => xneg neg (Nat.beq a b)) a b f)) (fun _ _ _ _ => (cmpI (fun _ a b => xneg neg (Nat.beq a b)) a b f)) (fun _ _ => (cmpI (fun _ a b => xneg neg (Nat.beq a b)) a b f)) (fun _ => (cmpI (fun _ a b => xneg neg (Nat.beq a b)) a b f)) (fun _ _ => (cmpI (fun _ a b => xneg neg (Nat.beq a b)) a b f)) () (fun _ _ _ _ => ()) a
def opEq (P : Program) (neg : Bool) (ty : Nat) (x y : Operand) : Vo :=
  match P.underlying ty with
  | some (.int _) => vo2 x y ⟨fun a b f => eqI neg a b f⟩
  | some .string => vo2 x y ⟨fun a b f => eqF 2 a b (fun e => f (.b (xneg neg e)))⟩
  | some .bool => vo2 x y ⟨fun a b f => eqF 3 a b (fun e => f (.b (xneg neg e)))⟩
  | some (.struct fs) => if plainS P ty fs then vo2 x y ⟨fun a b f => onAg (fun l => onAg (fun m => eqL (fs.toList.map (fun f => dcode (P.underlying f.type))) l m (fun e => f (.b (xneg neg e)))) b) a⟩ else badO
  | d =>
    match x, y with
    | x, .const c => vo1 x ⟨fun v f => (nilV d c).run v (onB (fun e => f (.b (xneg neg e))))⟩
    | .const c, y => vo1 y ⟨fun v f => (nilV d c).run v (onB (fun e => f (.b (xneg neg e))))⟩
    | _, _ => badO
def strAdd : V2 := ⟨fun x y f => onS (fun l => onS (fun m => gd (Nat.blt (Nat.add (llen l) (llen m)) 4611686018427387904) (f (.s (lapp l m)))) y) x⟩
def isStr (P : Program) (ty : Nat) : Bool :=
  match P.underlying ty with
  | some .string => true
  | _ => false
/-- All numbers of a range, beside one: what holds at both ends. -/
def cmpR (gi : IntKind → Nat → Nat → Bool) (a b : AV) (f : AV → R) : R :=
  AV.rec (motive_1 := fun _ => R) (motive_2 := fun _ => Unit) (cmpI gi a b f) (cmpI gi a b f) (fun _ => (cmpI gi a b f)) (fun _ _ => (cmpI gi a b f)) (fun _ _ => (cmpI gi a b f)) (fun k lo n => onI (fun j m => keq j k (gd (Nat.blt 0 n) (gd (Nat.ble (Nat.add lo n) (md k)) (gd (beqB (gi k (sx k lo) m) (gi k (sx k (Nat.sub (Nat.add lo n) 1)) m)) (f (.b (gi k (sx k lo) m))))))) b) (cmpI gi a b f) (cmpI gi a b f) (cmpI gi a b f) (cmpI gi a b f) (cmpI gi a b f) (fun _ _ _ _ _ => (cmpI gi a b f)) (fun _ _ _ => (cmpI gi a b f)) (fun _ => (cmpI gi a b f)) (fun _ _ => (cmpI gi a b f)) (fun _ _ => (cmpI gi a b f)) (fun _ => (cmpI gi a b f)) (fun _ _ _ _ => (cmpI gi a b f)) (fun _ _ => (cmpI gi a b f)) (fun _ => (cmpI gi a b f)) (fun _ _ => (cmpI gi a b f)) () (fun _ _ _ _ => ()) a
def opCmp (P : Program) (ty : Nat) (gi : IntKind → Nat → Nat → Bool) (gs : List Nat → List Nat → Bool) (x y : Operand) : Vo :=
  if isStr P ty then vo2 x y ⟨fun a b f => onS (fun l => onS (fun m => f (.b (gs l m))) b) a⟩ else vo2 x y ⟨fun a b f => cmpR gi a b f⟩
def subN (k : IntKind) (a b : Nat) : Nat := Nat.mod (Nat.add a (Nat.sub (md k) b)) (md k)
def upto (f : Nat → R) (n : Nat) : R := Nat.rec (motive := fun _ => R) true (fun m ih => Bool.rec (motive := fun _ => R) false ih (f m)) n
def addR (x y : AV) (f : AV → R) : R := AV.rec (motive_1 := fun _ => R) (motive_2 := fun _ => Unit) ((arith (fun k a b => Nat.mod (Nat.add a b) (md k))).run x y f) ((arith (fun k a b => Nat.mod (Nat.add a b) (md k))).run x y f) (fun _ => ((arith (fun k a b => Nat.mod (Nat.add a b) (md k))).run x y f)) (fun _ _ => ((arith (fun k a b => Nat.mod (Nat.add a b) (md k))).run x y f)) (fun _ _ => ((arith (fun k a b => Nat.mod (Nat.add a b) (md k))).run x y f)) (fun k lo n => onI (fun j m => keq j k (gd (Nat.ble (hf k) (sx k m)) (gd (Nat.blt 0 n) (gd (Nat.ble (Nat.add m (Nat.add lo n)) (md k)) (fc (fun l => f (.rg k l n)) (Nat.add m lo)))))) x) ((arith (fun k a b => Nat.mod (Nat.add a b) (md k))).run x y f) ((arith (fun k a b => Nat.mod (Nat.add a b) (md k))).run x y f) ((arith (fun k a b => Nat.mod (Nat.add a b) (md k))).run x y f) ((arith (fun k a b => Nat.mod (Nat.add a b) (md k))).run x y f) ((arith (fun k a b => Nat.mod (Nat.add a b) (md k))).run x y f) (fun _ _ _ _ _ => ((arith (fun k a b => Nat.mod (Nat.add a b) (md k))).run x y f)) (fun _ _ _ => ((arith (fun k a b => Nat.mod (Nat.add a b) (md k))).run x y f)) (fun _ => ((arith (fun k a b => Nat.mod (Nat.add a b) (md k))).run x y f)) (fun _ _ => ((arith (fun k a b => Nat.mod (Nat.add a b) (md k))).run x y f)) (fun _ _ => ((arith (fun k a b => Nat.mod (Nat.add a b) (md k))).run x y f)) (fun _ => ((arith (fun k a b => Nat.mod (Nat.add a b) (md k))).run x y f)) (fun _ _ _ _ => ((arith (fun k a b => Nat.mod (Nat.add a b) (md k))).run x y f)) (fun _ _ => ((arith (fun k a b => Nat.mod (Nat.add a b) (md k))).run x y f)) (fun _ => ((arith (fun k a b => Nat.mod (Nat.add a b) (md k))).run x y f)) (fun _ _ => ((arith (fun k a b => Nat.mod (Nat.add a b) (md k))).run x y f)) () (fun _ _ _ _ => ()) y
def addI : V2 := ⟨fun x y f => AV.rec (motive_1 := fun _ => R) (motive_2 := fun _ => Unit) (addR x y f) (addR x y f) (fun _ => (addR x y f)) (fun n c => onI (fun k m => gd (Nat.beq n 0) (keq k .u8 (fc (fun d => f (.bx 0 d)) (Nat.mod (Nat.add c m) 256)))) y) (fun _ _ => (addR x y f)) (fun _ _ _ => (addR x y f)) (addR x y f) (addR x y f) (addR x y f) (addR x y f) (addR x y f) (fun _ _ _ _ _ => (addR x y f)) (fun _ _ _ => (addR x y f)) (fun _ => (addR x y f)) (fun _ _ => (addR x y f)) (fun _ _ => (addR x y f)) (fun _ => (addR x y f)) (fun _ _ _ _ => (addR x y f)) (fun _ _ => (addR x y f)) (fun _ => (addR x y f)) (fun _ _ => (addR x y f)) () (fun _ _ _ _ => ()) x⟩
def xorI : V2 := ⟨fun x y f => AV.rec (motive_1 := fun _ => R) (motive_2 := fun _ => Unit) ((arith (fun _ a b => Nat.xor a b)).run x y f) ((arith (fun _ a b => Nat.xor a b)).run x y f) (fun _ => ((arith (fun _ a b => Nat.xor a b)).run x y f)) (fun z c => onI (fun k n => gd (Nat.beq z 0) (keq k .u8 (f (.bx n c)))) x) (fun _ _ => ((arith (fun _ a b => Nat.xor a b)).run x y f)) (fun _ _ _ => ((arith (fun _ a b => Nat.xor a b)).run x y f)) ((arith (fun _ a b => Nat.xor a b)).run x y f) ((arith (fun _ a b => Nat.xor a b)).run x y f) ((arith (fun _ a b => Nat.xor a b)).run x y f) ((arith (fun _ a b => Nat.xor a b)).run x y f) ((arith (fun _ a b => Nat.xor a b)).run x y f) (fun _ _ _ _ _ => ((arith (fun _ a b => Nat.xor a b)).run x y f)) (fun _ _ _ => ((arith (fun _ a b => Nat.xor a b)).run x y f)) (fun _ => ((arith (fun _ a b => Nat.xor a b)).run x y f)) (fun _ _ => ((arith (fun _ a b => Nat.xor a b)).run x y f)) (fun _ _ => ((arith (fun _ a b => Nat.xor a b)).run x y f)) (fun _ => ((arith (fun _ a b => Nat.xor a b)).run x y f)) (fun _ _ _ _ => ((arith (fun _ a b => Nat.xor a b)).run x y f)) (fun _ _ => ((arith (fun _ a b => Nat.xor a b)).run x y f)) (fun _ => ((arith (fun _ a b => Nat.xor a b)).run x y f)) (fun _ _ => ((arith (fun _ a b => Nat.xor a b)).run x y f)) () (fun _ _ _ _ => ()) y⟩
/-- The rest of a number that is not negative, by a small one. -/
def remI : V2 := ⟨fun x y f => AV.rec (motive_1 := fun _ => R) (motive_2 := fun _ => Unit) ((divs Nat.mod).run x y f) ((divs Nat.mod).run x y f) (fun _ => ((divs Nat.mod).run x y f)) (fun _ _ => ((divs Nat.mod).run x y f)) (fun _ _ => ((divs Nat.mod).run x y f)) (fun k lo n => onI (fun j m => keq j k (gd (Nat.blt 0 n) (gd (Nat.ble (hf k) lo) (gd (Nat.blt 0 m) (gd (Nat.blt m 64) (f (.rg k (hf k) m))))))) y) ((divs Nat.mod).run x y f) ((divs Nat.mod).run x y f) ((divs Nat.mod).run x y f) ((divs Nat.mod).run x y f) ((divs Nat.mod).run x y f) (fun _ _ _ _ _ => ((divs Nat.mod).run x y f)) (fun _ _ _ => ((divs Nat.mod).run x y f)) (fun _ => ((divs Nat.mod).run x y f)) (fun _ _ => ((divs Nat.mod).run x y f)) (fun _ _ => ((divs Nat.mod).run x y f)) (fun _ => ((divs Nat.mod).run x y f)) (fun _ _ _ _ => ((divs Nat.mod).run x y f)) (fun _ _ => ((divs Nat.mod).run x y f)) (fun _ => ((divs Nat.mod).run x y f)) (fun _ _ => ((divs Nat.mod).run x y f)) () (fun _ _ _ _ => ()) x⟩
def opBin (P : Program) (op : BinOp) (ty : Nat) (x y : Operand) : Vo :=
  match op with
  | .add => if isStr P ty then vo2 x y strAdd else vo2 x y addI
  | .sub => vo2 x y (arith subN)
  | .mul => vo2 x y (arith (fun k a b => Nat.mod (Nat.mul a b) (md k)))
  | .quo => vo2 x y (divs Nat.div)
  | .rem => vo2 x y remI
  | .and => vo2 x y (arith (fun _ a b => Nat.land a b))
  | .or => vo2 x y (arith (fun _ a b => Nat.lor a b))
  | .xor => vo2 x y xorI
  | .andNot => vo2 x y (arith (fun k a b => Nat.land a (Nat.xor b (Nat.sub (md k) 1))))
  | .shl => vo2 x y shl2
  | .shr => vo2 x y shr2
  | .eql => opEq P false ty x y
  | .neq => opEq P true ty x y
  | .lss => opCmp P ty (fun k a b => Nat.blt (sx k a) (sx k b)) (fun l m => lless l m) x y
  | .leq => opCmp P ty (fun k a b => Nat.ble (sx k a) (sx k b)) (fun l m => Bool.rec (leq l m) true (lless l m)) x y
  | .gtr => opCmp P ty (fun k a b => Nat.blt (sx k b) (sx k a)) (fun l m => nt (Bool.rec (leq l m) true (lless l m))) x y
  | .geq => opCmp P ty (fun k a b => Nat.ble (sx k b) (sx k a)) (fun l m => nt (lless l m)) x y
def onIu (u : IntKind → R) (f : IntKind → Nat → R) (x : AV) : R := AV.rec (motive_1 := fun _ => R) (motive_2 := fun _ => Unit) false false u (fun _ _ => false) (fun _ _ => false) (fun _ _ _ => false) false false false false false (fun _ _ _ _ _ => false) (fun _ _ _ => false) (fun _ => false) (fun _ _ => false) (fun _ _ => false) (fun _ => false) (fun _ _ _ _ => false) (fun _ _ => false) (fun _ => false) f () (fun _ _ _ _ => ()) x
def opUn (op : UnOp) (x : Operand) : Vo :=
  match op with
  | .neg => vo1 x ⟨fun v f => onIu (fun k => f (.ui k)) (fun k a => fi k f (subN k 0 a)) v⟩
  | .xor => vo1 x ⟨fun v f => onIu (fun k => f (.ui k)) (fun k a => fi k f (Nat.sub (Nat.sub (md k) 1) a)) v⟩
  | .not => vo1 x not1
  | .plus => badO
/-- A number of kind j as one of kind k. -/
def cvt (j k : IntKind) (n : Nat) : Nat := Bool.rec (Nat.mod (Nat.add n (Nat.sub (md k) (Nat.mod (md j) (md k)))) (md k)) (Nat.mod n (md k)) (Nat.ble (hf j) (sx j n))
def isU8 (d : Option TypeDesc) : Bool :=
  match d with
  | some (.int .u8) => true
  | _ => false
def bytesOf (l : List AV) : (List Nat → R) → R := List.rec (motive := fun _ => (List Nat → R) → R) (fun f => f []) (fun x _ ih f => onI (fun k n => keq k .u8 (ih (fun l => f (n :: l)))) x) l
def opConv (P : Program) (src dst : Nat) (x : Operand) : Vo :=
  match P.underlying src, P.underlying dst with
  | some (.int _), some (.int k) => vo1 x ⟨fun v f => onIu (fun _ => f (.ui k)) (fun j n => fi k f (cvt j k n)) v⟩
  | some .string, some .string => vo1 x ⟨fun v f => onS (fun l => f (.s l)) v⟩
  | some (.slice e), some .string =>
    if isU8 (P.underlying e) then ⟨fun t h f => (gt x).run (fun v => AV.rec (motive_1 := fun _ => R) (motive_2 := fun _ => Unit) false false (fun _ => false) (fun _ _ => false) (fun _ _ => false) (fun _ _ _ => false) false false false false (f (.s [])) (fun _ _ _ _ _ => false) (fun _ _ _ => false) (fun _ => false) (fun _ _ => false) (fun _ _ => false) (fun _ => false) (fun b o n _ => lds h b o n (fun l => bytesOf l (fun l => f (.s l)))) (fun _ _ => false) (fun _ => false) (fun _ _ => false) () (fun _ _ _ _ => ()) v) t⟩ else badO
  | _, _ => badO
def nth (n : Nat) : List AV → (AV → R) → R :=
  Nat.rec (motive := fun _ => List AV → (AV → R) → R) (fun l f => List.rec (motive := fun _ => R) false (fun x _ _ => f x) l) (fun _ ih l f => List.rec (motive := fun _ => R) false (fun _ l _ => ih l f) l) n
def nthN (n : Nat) : List Nat → (Nat → R) → R :=
  Nat.rec (motive := fun _ => List Nat → (Nat → R) → R) (fun l f => List.rec (motive := fun _ => R) false (fun x _ _ => f x) l) (fun _ ih l f => List.rec (motive := fun _ => R) false (fun _ l _ => ih l f) l) n
def opField (P : Program) (ty : Nat) (x : Operand) (i : Nat) : Vo :=
  match P.underlying ty with
  | some (.struct fs) =>
    match fs[i]? with
    | some fd =>
      match shapeOf P fd.type with
      | some none => vo1 x ⟨fun v f => onAg (fun l => nth fd.offset l f) v⟩
      | some (some m) => vo1 x ⟨fun v f => onAg (fun l => f (.ag ((l.drop fd.offset).take m))) v⟩
      | none => badO
    | none => badO
  | _ => badO
def opNilCheck (x : Operand) : Vo := vo1 x ⟨fun v f => AV.rec (motive_1 := fun _ => R) (motive_2 := fun _ => Unit) false false (fun _ => false) (fun _ _ => false) (fun _ _ => false) (fun _ _ _ => false) false false false false false (fun y0 y1 y2 _ _ => (fun fn a c => Fn.rec (motive := fun _ => R) (fun g => f (.f (.func g) a c)) (fun _ => false) (fun _ _ => false) (fun _ _ _ _ => false) (fun _ => false) fn) y0 y1 y2) (fun y0 y1 _ => (fun t v => f (.ifc t v)) y0 y1) (fun _ => false) (fun _ _ => false) (fun _ _ => false) (fun _ => false) (fun _ _ _ _ => false) (fun b o => f (.p b o)) (fun _ => false) (fun _ _ => false) () (fun _ _ _ _ => ()) v⟩
def opFieldAddr (P : Program) (ty : Nat) (x : Operand) (i : Nat) : Vo :=
  match P.underlying ty with
  | some (.struct fs) =>
    match fs[i]? with
    | some fd =>
      match szOf P fd.type with
      | some (_ + 1) => vo1 x ⟨fun v f => onP (fun b o => fc (fun o => f (.p b o)) (Nat.add o fd.offset)) v⟩
      | _ => badO
    | none => badO
  | _ => badO
def ixP (sz : Nat) (b o n : Nat) (f : AV → R) (k : IntKind) (a : Nat) : R := gd (Nat.blt a n) (gd (Nat.ble (hf k) (sx k a)) (fc (fun o => f (.p b o)) (Nat.add o (Nat.mul a sz))))
def opIndexAddr (P : Program) (ty : Nat) (x i : Operand) : Vo :=
  match P.underlying ty with
  | some (.slice e) =>
    match szOf P e with
    | some sz => vo2 x i ⟨fun v j f => onSl (fun b o n _ => onI (ixP sz b o n f) j) v⟩
    | none => badO
  | some (.array len e) =>
    match szOf P e with
    | some sz => vo2 x i ⟨fun v j f => onP (fun b o => onI (ixP sz b o len f) j) v⟩
    | none => badO
  | _ => badO
def opIndex (P : Program) (ty : Nat) (x i : Operand) : Vo :=
  if isStr P ty then vo2 x i ⟨fun v j f => onS (fun l => onI (fun k a => gd (Nat.ble (hf k) (sx k a)) (nthN a l (fun c => f (.i .u8 c)))) j) v⟩ else badO
def opLoad (P : Program) (ty : Nat) (x : Operand) : Vo :=
  match shapeOf P ty with
  | some none => ⟨fun t h f => (gt x).run (onP (fun b o => ldc h b o f)) t⟩
  | some (some m) => ⟨fun t h f => (gt x).run (onP (fun b o => lds h b o m (fun l => f (.ag l)))) t⟩
  | none => badO
/-- A list with other ones at a place. -/
def splice (l : List AV) (o : Nat) : List AV → List AV :=
  Nat.rec (motive := fun _ => List AV → List AV) (fun m => lapp l (m.drop (llen l))) (fun _ ih m => List.rec (motive := fun _ => List AV) [] (fun x m _ => x :: ih m) m) o
/-- Parts (where, how many cells, what) into a list. -/
def fills (l : List (Nat × Nat × Operand)) : T → List AV → (List AV → R) → R :=
  List.rec (motive := fun _ => T → List AV → (List AV → R) → R) (fun _ m f => f m)
    (fun p _ ih t m f => (gt p.2.2).run (fun v => cellsA v (fun c => gd (Nat.beq (llen c) p.2.1) (gd (Nat.ble (Nat.add p.1 p.2.1) (llen m)) (ih t (splice c p.1 m) f)))) t) l
def zeroL (P : Program) (ty : Nat) : Option (List AV) :=
  match P.info? ty with
  | some i => i.zero.map (fun v => v.cells.toList.map ofV0)
  | none => none
def partsOf (P : Program) (fs : Array Field) : List (Nat × Operand) → Option (List (Nat × Nat × Operand))
  | [] => some []
  | (i, x) :: r =>
    match fs[i]?, partsOf P fs r with
    | some fd, some l => (szOf P fd.type).map fun s => (fd.offset, s, x) :: l
    | _, _ => none
def allSizes (P : Program) (fs : Array Field) : Bool := fs.toList.all (fun f => (szOf P f.type).isSome)
def opBuild (P : Program) (ty : Nat) (parts : Array (Nat × Operand)) : Vo :=
  match P.underlying ty, zeroL P ty with
  | some (.struct fs), some z =>
    match partsOf P fs parts.toList with
    | some l => if allSizes P fs then ⟨fun t _ f => fills l t z (fun m => f (.ag m))⟩ else badO
    | none => badO
  | some (.array _ e), some z =>
    match szOf P e with
    | some s => ⟨fun t _ f => fills (parts.toList.map fun p => (p.1 * s, s, p.2)) t z (fun m => f (.ag m))⟩
    | none => badO
  | _, _ => badO
def opFunc (fn : Fn) (first cap : Array Operand) : Vo := ⟨fun t _ f => (gts first.toList).run (fun a => (gts cap.toList).run (fun c => f (.f fn a c)) t) t⟩
def opIface (P : Program) (ty : Nat) (x : Operand) : Vo :=
  match P.underlying ty with
  | some (.interface _) | none => badO
  | _ => vo1 x ⟨fun v f => f (.ifc ty v)⟩
def isIfaceD (d : Option TypeDesc) : Bool :=
  match d with
  | some (.interface _) | none => true
  | _ => false
def opAssert (P : Program) (x : Operand) (ty : Nat) (ok : Bool) : Vo :=
  if isIfaceD (P.underlying ty) then badO else vo1 x ⟨fun v f => AV.rec (motive_1 := fun _ => R) (motive_2 := fun _ => Unit) false false (fun _ => false) (fun _ _ => false) (fun _ _ => false) (fun _ _ _ => false) false false false false false (fun _ _ _ _ _ => false) (fun y0 y1 _ => (fun t v => gd (Nat.beq t ty) (Bool.rec (f v) (f (.tu [v, .b true])) ok)) y0 y1) (fun _ => false) (fun _ _ => false) (fun _ _ => false) (fun _ => false) (fun _ _ _ _ => false) (fun _ _ => false) (fun _ => false) (fun _ _ => false) () (fun _ _ _ _ => ()) v⟩
def eqK (x y : AV) (f : Bool → R) : R := AV.rec (motive_1 := fun _ => R) (motive_2 := fun _ => Unit) false false (fun _ => false) (fun _ _ => false) (fun _ _ => false) (fun _ _ _ => false) false false false false false (fun _ _ _ _ _ => false) (fun _ _ _ => false) (fun _ => false) (fun _ _ => false) (fun _ _ => false) (fun a => onS (fun b => f (leq a b)) y) (fun _ _ _ _ => false) (fun _ _ => false) (fun _ => false) (fun k a => AV.rec (motive_1 := fun _ => R) (motive_2 := fun _ => Unit) false false (fun _ => false) (fun _ _ => false) (fun _ _ => false) (fun _ _ _ => false) false false false false false (fun _ _ _ _ _ => false) (fun _ _ _ => false) (fun _ => false) (fun _ _ => false) (fun _ _ => false) (fun _ => false) (fun _ _ _ _ => false) (fun _ _ => false) (fun _ => false) (fun j b => keq k j (f (Nat.beq a b))) () (fun _ _ _ _ => ()) y) () (fun _ _ _ _ => ()) x
/-- The entry of a key: what stands there, and where. -/
def findM (k : AV) (es : List ME) : (R) → (AV → R) → R :=
  List.rec (motive := fun _ => R → (AV → R) → R) (fun no _ => no) (fun e _ ih no yes => ME.rec (motive := fun _ => R) (fun k' v _ => eqK k k' (fun b => Bool.rec (ih no yes) (yes v) b)) e) es
def updM (k v : AV) (es : List ME) : (R) → (List ME → R) → R :=
  List.rec (motive := fun _ => R → (List ME → R) → R) (fun no _ => no) (fun e es ih no yes => ME.rec (motive := fun _ => R) (fun k' v' born => eqK k k' (fun b => Bool.rec (ih no (fun es => yes (.mk k' v' born :: es))) (yes (.mk k v born :: es)) b)) e) es
def delM (k : AV) (es : List ME) : (List ME → R) → R :=
  List.rec (motive := fun _ => (List ME → R) → R) (fun yes => yes []) (fun e es ih yes => ME.rec (motive := fun _ => R) (fun k' v' born => eqK k k' (fun b => Bool.rec (ih (fun es => yes (.mk k' v' born :: es))) (yes es) b)) e) es
def ldM (h : H) (r : Nat) (f : List ME → Nat → R) : R := onH (fun ht _ => (acc Blk 5 r).run (onMp f) ht) h
def stM (h : H) (r : Nat) (es : List ME) (c : Nat) (f : H → R) : R := onH (fun ht nx => (pcc Blk 5 r).run (.mp es c) (fun ht => f (.mk ht nx)) ht) h
/-- The key's kind, the element's zero, of a map with keys that are numbers or strings. -/
def mapKV (P : Program) (ty : Nat) : Option AV :=
  match P.underlying ty with
  | some (.map _ e) =>
    match P.info? e with
    | some i => i.zero.map ofV
    | none => none
  | _ => none
/-- Is the value of the key's kind? -/
def keyOk (P : Program) (ty : Nat) : V1 :=
  match P.underlying ty with
  | some (.map k _) =>
    match P.underlying k with
    | some (.int j) => ⟨fun v f => onI (fun i n => keq i j (f v)) v⟩
    | some .string => ⟨fun v f => onS (fun _ => f v) v⟩
    | _ => bad1
  | _ => bad1
def opLookup (P : Program) (ty : Nat) (x k : Operand) (ok : Bool) : Vo :=
  match mapKV P ty with
  | some z => ⟨fun t h f => (gt x).run (fun m => (gt k).run (fun k => (keyOk P ty).run k (fun k =>
      AV.rec (motive_1 := fun _ => R) (motive_2 := fun _ => Unit) false false (fun _ => false) (fun _ _ => false) (fun _ _ => false) (fun _ _ _ => false) false false (Bool.rec (f z) (f (.tu [z, .b false])) ok) false false (fun _ _ _ _ _ => false) (fun _ _ _ => false) (fun r => ldM h r (fun es _ => findM k es (Bool.rec (f z) (f (.tu [z, .b false])) ok) (fun v => Bool.rec (f v) (f (.tu [v, .b true])) ok))) (fun _ _ => false) (fun _ _ => false) (fun _ => false) (fun _ _ _ _ => false) (fun _ _ => false) (fun _ => false) (fun _ _ => false) () (fun _ _ _ _ => ()) m)) t) t⟩
  | none => badO
/-- A length as an int. -/
def li (f : AV → R) (n : Nat) : R := gd (Nat.blt n 4611686018427387904) (fc (fun n => f (.i .i64 n)) n)
def lenB (P : Program) (ty : Nat) (x : Operand) : Vo :=
  match P.underlying ty with
  | some .string => vo1 x ⟨fun v f => onS (fun l => li f (llen l)) v⟩
  | some (.array n _) => vo1 x ⟨fun _ f => li f n⟩
  | some (.slice _) => vo1 x ⟨fun v f => AV.rec (motive_1 := fun _ => R) (motive_2 := fun _ => Unit) false false (fun _ => false) (fun _ _ => false) (fun _ _ => false) (fun _ _ _ => false) false false false false (li f 0) (fun _ _ _ _ _ => false) (fun _ _ _ => false) (fun _ => false) (fun _ _ => false) (fun _ _ => false) (fun _ => false) (fun _ _ n _ => li f n) (fun _ _ => false) (fun _ => false) (fun _ _ => false) () (fun _ _ _ _ => ()) v⟩
  | some (.map _ _) => ⟨fun t h f => (gt x).run (fun m => AV.rec (motive_1 := fun _ => R) (motive_2 := fun _ => Unit) false false (fun _ => false) (fun _ _ => false) (fun _ _ => false) (fun _ _ _ => false) false false (li f 0) false false (fun _ _ _ _ _ => false) (fun _ _ _ => false) (fun r => ldM h r (fun es _ => li f (llen es))) (fun _ _ => false) (fun _ _ => false) (fun _ => false) (fun _ _ _ _ => false) (fun _ _ => false) (fun _ => false) (fun _ _ => false) () (fun _ _ _ _ => ()) m) t⟩
  | _ => badO
def mm2 (mx : Bool) (x y : AV) (f : AV → R) : R := onII (fun _ => false) (fun k a b => fi k f (Bool.rec (motive := fun _ => Nat) (Bool.rec (motive := fun _ => Nat) a b (Nat.blt (sx k b) (sx k a))) (Bool.rec (motive := fun _ => Nat) a b (Nat.blt (sx k a) (sx k b))) mx)) x y
def mmL (mx : Bool) (l : List AV) : AV → (AV → R) → R := List.rec (motive := fun _ => AV → (AV → R) → R) (fun v f => f v) (fun y _ ih v f => mm2 mx v y (fun v => ih v f)) l
def opMm (mx : Bool) (args : List Operand) : Vo :=
  match args with
  | [] => badO
  | a :: r => ⟨fun t _ f => (gt a).run (fun v => (gts r).run (fun l => mmL mx l v f) t) t⟩
/-- A bound of a slicing: none, or a number that is not negative. -/
def bnd (x : Option Operand) (dv : Nat) (t : T) (f : Nat → R) : R :=
  Option.rec (motive := fun _ => R) (f dv) (fun x => (gt x).run (onI (fun k a => gd (Nat.ble (hf k) (sx k a)) (f a))) t) x
def drp (n : Nat) : List Nat → List Nat := Nat.rec (motive := fun _ => List Nat → List Nat) (fun l => l) (fun _ ih l => List.rec (motive := fun _ => List Nat) [] (fun _ l _ => ih l) l) n
def tke (n : Nat) : List Nat → List Nat := Nat.rec (motive := fun _ => List Nat → List Nat) (fun _ => []) (fun _ ih l => List.rec (motive := fun _ => List Nat) [] (fun x l _ => x :: ih l) l) n
def slS (l : List Nat) (lo hi : Option Operand) (t : T) (f : AV → R) : R :=
  fc (fun n => bnd lo 0 t (fun a => bnd hi n t (fun c => gd (Nat.ble c n) (gd (Nat.ble a c) (fc (fun q => f (.s (tke q (drp a l)))) (Nat.sub c a)))))) (llen l)
/-- x[lo:hi:mx] of a slice (mx: the room that is known, or less). -/
def slX (sz b o n c : Nat) (lo hi mx : Option Operand) (t : T) (f : AV → R) : R :=
  bnd lo 0 t (fun a => bnd hi n t (fun e => bnd mx c t (fun m => gd (Nat.ble m c) (gd (Nat.ble e m) (gd (Nat.ble a e) (fc (fun o => fc (fun q => fc (fun r => f (.sl b o q r)) (Nat.sub m a)) (Nat.sub e a)) (Nat.add o (Nat.mul a sz))))))))
def sl0X (lo hi : Option Operand) (t : T) (f : AV → R) : R :=
  bnd lo 0 t (fun a => bnd hi 0 t (fun e => gd (Nat.ble e 0) (gd (Nat.ble a e) (f .sl0))))
def opSlice (P : Program) (ty : Nat) (x : Operand) (lo hi mx : Option Operand) : Vo :=
  if mx.isSome && hi.isNone then badO else
  match P.underlying ty with
  | some .string => if mx.isNone then ⟨fun t _ f => (gt x).run (onS (fun l => slS l lo hi t f)) t⟩ else badO
  | some (.slice e) =>
    match szOf P e with
    | some sz => ⟨fun t _ f => (gt x).run (fun v => AV.rec (motive_1 := fun _ => R) (motive_2 := fun _ => Unit) false false (fun _ => false) (fun _ _ => false) (fun _ _ => false) (fun _ _ _ => false) false false false false (Bool.rec false (sl0X lo hi t f) mx.isNone) (fun _ _ _ _ _ => false) (fun _ _ _ => false) (fun _ => false) (fun _ _ => false) (fun _ _ => false) (fun _ => false) (fun b o n c => slX sz b o n c lo hi mx t f) (fun _ _ => false) (fun _ => false) (fun _ _ => false) () (fun _ _ _ _ => ()) v) t⟩
    | none => badO
  | some (.array n e) =>
    match szOf P e with
    | some sz => ⟨fun t _ f => (gt x).run (onP (fun b o => slX sz b o n n lo hi mx t f)) t⟩
    | none => badO
  | _ => badO
def isU8sl (P : Program) (ty : Nat) : Bool :=
  match P.underlying ty with
  | some (.slice e) => isU8 (P.underlying e)
  | _ => false
def isIntD (d : Option TypeDesc) : Bool :=
  match d with
  | some (.int _) => true
  | _ => false
/-- The operations that give a value and turn nothing. -/
def vop (P : Program) (o : Oper) : Option Vo :=
  match o.op with
  | .move x => some ⟨fun t _ f => (gt x).run f t⟩
  | .pick c a b => some ⟨fun t _ f => (gt c).run (onB (fun x => Bool.rec ((gt b).run f t) ((gt a).run f t) x)) t⟩
  | .build ty ps => some (opBuild P ty ps)
  | .load ty x => some (opLoad P ty x)
  | .nilCheck x => some (opNilCheck x)
  | .binOp op ty x y _ => some (opBin P op ty x y)
  | .unOp op _ x => some (opUn op x)
  | .convert a b x => if isU8sl P b && isStr P a then none else some (opConv P a b x)
  | .makeInterface ty x => some (opIface P ty x)
  | .makeFunc fn a c => some (opFunc fn a c)
  | .slice ty x lo hi mx => some (opSlice P ty x lo hi mx)
  | .fieldAddr ty x i => some (opFieldAddr P ty x i)
  | .field ty x i => some (opField P ty x i)
  | .indexAddr ty x i => some (opIndexAddr P ty x i)
  | .index ty x i => some (opIndex P ty x i)
  | .lookup ty x k ok => some (opLookup P ty x k ok)
  | .typeAssert x _ ty ok => some (opAssert P x ty ok)
  | .extract x i => some (vo1 x ⟨fun v f => onTu (fun l => nth i l f) v⟩)
  | .call c =>
    match c.callee with
    | .builtin .len => match c.args.toList, c.argTypes[0]? with
      | [x], some ty => some (lenB P ty x)
      | _, _ => some badO
    | .builtin .min => some (opMm false c.args.toList)
    | .builtin .max => some (opMm true c.args.toList)
    | _ => none
  | _ => none

/-! ### Operations that make one new block and turn nothing else -/
structure Mk where
  run : T → H → (Nat → AV → Blk → R) → R
def badM : Mk := ⟨fun _ _ _ => false⟩
/-- The block, and the value: of the new number. f gets the number. -/
def mkP (g : T → (Blk → R) → R) : Mk := ⟨fun t h f => onH (fun _ nx => g t (fun k => f nx (.p nx 0) k)) h⟩
def opAlloc (P : Program) (ty : Nat) : Mk :=
  match zeroL P ty with
  | some l => if llen l ≤ 32768 then mkP (fun _ f => f (blkC 0 l)) else badM
  | none => badM
def opBox (ty : Nat) (x : Operand) : Mk := mkP (fun t f => (gt x).run (fun v => cellsA v (fun l => mkBlk 0 l f)) t)
def opBuildSlice (P : Program) (ty len : Nat) (parts : Array (Nat × Operand)) : Mk :=
  match P.underlying ty with
  | some (.slice e) =>
    match szOf P e, zeroL P e with
    | some s, some z =>
      if len * s ≤ 16777216 ∧ llen z = s then ⟨fun t h f => onH (fun _ nx => fills (parts.toList.map fun p => (p.1 * s, s, p.2)) t (lrep z len) (fun m => mkBlk s m (fun k => f nx (.sl nx 0 len len) k))) h⟩ else badM
    | _, _ => badM
  | _ => badM
/-- n times the cells z. -/
def zrows (s : Nat) (z : List AV) (n : Nat) : Blk :=
  List.rec (motive := fun _ => Blk) (.c 1 (dflt .un 1) 0 s) (fun z0 r _ => List.rec (motive := fun _ => Blk) (.c (dOf n) (dflt z0 (dOf n)) n s) (fun _ _ _ => blkC s (lrep z n)) r) z
def mkSl (s bytes : Nat) (z : List AV) (nx a b : Nat) (f : Nat → AV → Blk → R) : R :=
  gd (Nat.ble a b) (gd (Nat.ble (Nat.mul b bytes) 281474976710656) (gd (Nat.ble (Nat.mul b s) 32768) (gd (Nat.blt b 4611686018427387904) (f nx (.sl nx 0 a b) (zrows s z b)))))
def opMakeSlice (P : Program) (ty : Nat) (l c : Operand) : Mk :=
  match P.underlying ty with
  | some (.slice e) =>
    match szOf P e, zeroL P e, P.info? e with
    | some s, some z, some i =>
      if llen z = s then ⟨fun t h f => onH (fun _ nx => (gt l).run (onI (fun k a => keq k .i64 ((gt c).run (onI (fun j b => keq j .i64 (mkSl s i.bytes z nx a b f))) t))) t) h⟩ else badM
    | _, _, _ => badM
  | _ => badM
def opMakeMap (P : Program) (ty : Nat) (r : Option Operand) : Mk :=
  match r with
  | none => ⟨fun _ h f => onH (fun _ nx => f nx (.m nx) (.mp [] 0)) h⟩
  | some x =>
    match P.underlying ty with
    | some (.map _ _) => ⟨fun t h f => (gt x).run (onI (fun _ _ => onH (fun _ nx => f nx (.m nx) (.mp [] 0)) h)) t⟩
    | _ => badM
def avs (l : List Nat) : List AV := List.rec (motive := fun _ => List AV) [] (fun n _ ih => .i .u8 n :: ih) l
def opBytes (x : Operand) : Mk := ⟨fun t h f => onH (fun _ nx => (gt x).run (onS (fun l => fc (fun n => gd (Nat.blt n 4611686018427387904) (mkBlk 1 (avs l) (fun k => f nx (.sl nx 0 n n) k))) (llen l))) t) h⟩
def mop (P : Program) (o : Oper) : Option Mk :=
  match o.op with
  | .alloc ty => some (opAlloc P ty)
  | .box ty x => some (opBox ty x)
  | .buildSlice ty n ps => some (opBuildSlice P ty n ps)
  | .makeSlice ty l c => some (opMakeSlice P ty l c)
  | .makeMap ty r => some (opMakeMap P ty r)
  | .convert a b x => if isU8sl P b && isStr P a then some (opBytes x) else none
  | _ => none

/-! ### Operations that turn something, and calls -/
/-- What goes on with a value and a heap. -/
structure Eo where
  run : CH → T → H → (AV → H → R) → R
def badE : Eo := ⟨fun _ _ _ _ => false⟩
def opStore (P : Program) (ty : Nat) (x y : Operand) : Eo :=
  match shapeOf P ty with
  | some none => if szOf P ty = some 1 then ⟨fun _ t h f => (gt x).run (onP (fun b o => (gt y).run (fun v => flat (stc h b o v (fun h => f (.tu []) h)) v) t)) t⟩ else badE
  | some (some m) => ⟨fun _ t h f => (gt x).run (onP (fun b o => (gt y).run (onAg (fun l => flats (gd (Nat.beq (llen l) m) (sts h b o l (fun h => f (.tu []) h))) l)) t)) t⟩
  | none => badE
def opMapUpdate (P : Program) (ty : Nat) (x k v : Operand) : Eo :=
  ⟨fun _ t h f => (gt x).run (fun m => (gt k).run (fun k => (keyOk P ty).run k (fun k => (gt v).run (fun v =>
      AV.rec (motive_1 := fun _ => R) (motive_2 := fun _ => Unit) false false (fun _ => false) (fun _ _ => false) (fun _ _ => false) (fun _ _ _ => false) false false false false false (fun _ _ _ _ _ => false) (fun _ _ _ => false) (fun r => ldM h r (fun es c => updM k v es (fc (fun c2 => stM h r (lapp es [.mk k v c]) c2 (fun h => f (.tu []) h)) (Nat.add c 1)) (fun es => stM h r es c (fun h => f (.tu []) h)))) (fun _ _ => false) (fun _ _ => false) (fun _ => false) (fun _ _ _ _ => false) (fun _ _ => false) (fun _ => false) (fun _ _ => false) () (fun _ _ _ _ => ()) m) t)) t) t⟩
def opDelete (P : Program) (ty : Nat) (x k : Operand) : Eo :=
  ⟨fun _ t h f => (gt x).run (fun m => (gt k).run (fun k => (keyOk P ty).run k (fun k =>
      AV.rec (motive_1 := fun _ => R) (motive_2 := fun _ => Unit) false false (fun _ => false) (fun _ _ => false) (fun _ _ => false) (fun _ _ _ => false) false false (f (.tu []) h) false false (fun _ _ _ _ _ => false) (fun _ _ _ => false) (fun r => ldM h r (fun es c => delM k es (fun es => stM h r es c (fun h => f (.tu []) h)))) (fun _ _ => false) (fun _ _ => false) (fun _ => false) (fun _ _ _ _ => false) (fun _ _ => false) (fun _ => false) (fun _ _ => false) () (fun _ _ _ _ => ()) m)) t) t⟩
def opClear (P : Program) (ty : Nat) (x : Operand) : Eo :=
  match P.underlying ty with
  | some (.slice e) =>
    match zeroL P e with
    | some z => ⟨fun _ t h f => (gt x).run (fun v => AV.rec (motive_1 := fun _ => R) (motive_2 := fun _ => Unit) false false (fun _ => false) (fun _ _ => false) (fun _ _ => false) (fun _ _ _ => false) false false false false (f (.tu []) h) (fun _ _ _ _ _ => false) (fun _ _ _ => false) (fun _ => false) (fun _ _ => false) (fun _ _ => false) (fun _ => false) (fun b o n _ => Nat.rec (motive := fun _ => R) (f (.tu []) h) (fun _ _ => flats (sts h b o (lrep z n) (fun h => f (.tu []) h)) (lrep z n)) n) (fun _ _ => false) (fun _ => false) (fun _ _ => false) () (fun _ _ _ _ => ()) v) t⟩
    | none => badE
  | _ => badE
/-- What is appended: how many, the cells. -/
def srcOf (sz : Nat) (h : H) (x : AV) (f : Nat → List AV → R) : R := AV.rec (motive_1 := fun _ => R) (motive_2 := fun _ => Unit) false false (fun _ => false) (fun _ _ => false) (fun _ _ => false) (fun _ _ _ => false) false false false false (f 0 []) (fun _ _ _ _ _ => false) (fun _ _ _ => false) (fun _ => false) (fun _ _ => false) (fun _ _ => false) (fun l => gd (Nat.beq sz 1) (fc (fun n => f n (avs l)) (llen l))) (fun b o n _ => lds h b o (Nat.mul n sz) (fun l => flats (f n l) l)) (fun _ _ => false) (fun _ => false) (fun _ _ => false) () (fun _ _ _ _ => ()) x
/-- A tree that has room. -/
def deep (n : Nat) (f : (d : Nat) → Dt AV d → R) (q : Nat) : (d : Nat) → Dt AV d → R :=
  Nat.rec (motive := fun _ => (d : Nat) → Dt AV d → R) (fun _ _ => false)
    (fun _ ih d t => Bool.rec (motive := fun _ => R) (ih (Nat.add d 1) (Fr.mk t (dflt (α := AV) .un d) (dflt (α := AV) .un d) (dflt (α := AV) .un d) (dflt (α := AV) .un d) (dflt (α := AV) .un d) (dflt (α := AV) .un d) (dflt (α := AV) .un d))) (f d t) (Nat.ble n (Nat.pow 8 d))) q
/-- append of m more (the cells l) to b, o, n, c. -/
def appB (sz : Nat) (h : H) (b o n c m : Nat) (l : List AV) (f : AV → H → R) : R :=
  fc (fun q => Bool.rec (motive := fun _ => R)
    (onH (fun ht nx => (acc Blk 5 b).run (onC (fun d tr w z => gd (Nat.beq z sz) (gd (Nat.beq w (Nat.mul c sz)) (gd (Nat.beq o 0) (gd (Nat.blt q 4194304) (gd (Nat.ble n c)
      (fc (fun w2 => deep w2 (fun d tr => wrl d l (Nat.mul n sz) tr (fun tr => (pcc Blk 5 b).run .no (fun ht => (pcc Blk 5 nx).run (.c d tr w2 sz) (fun ht => fc (fun m => f (.sl nx 0 q q) (.mk ht m)) (Nat.add nx 1)) ht) ht)) 7 d tr) (Nat.mul q sz)))))))) ht) h)
    (fc (fun o2 => sts h b o2 l (fun h => f (.sl b o q c) h)) (Nat.add o (Nat.mul n sz)))
    (Nat.ble q c)) (Nat.add n m)
/-- What is appended to, and what is: the types. -/
def appOk (P : Program) (e tx : Nat) : Bool :=
  (match P.underlying tx with
    | some (.slice _) | some .string => true
    | _ => false) &&
  (match P.info? e with
    | some i => i.zero.map (fun z => z.cells.size) == some i.size && decide (i.bytes ≤ 16777216)
    | none => false)
def opAppend (P : Program) (ty tx : Nat) (x y : Operand) : Eo :=
  match P.underlying ty with
  | some (.slice e) =>
    match szOf P e with
    | some sz => if appOk P e tx then ⟨fun _ t h f => (gt x).run (fun v => (gt y).run (fun u => srcOf sz h u (fun m l =>
        AV.rec (motive_1 := fun _ => R) (motive_2 := fun _ => Unit) false false (fun _ => false) (fun _ _ => false) (fun _ _ => false) (fun _ _ _ => false) false false false false (Nat.rec (motive := fun _ => R) (f .sl0 h) (fun _ _ => gd (Nat.blt m 4194304) (mkBlk sz l (fun k => new h k (fun nx h => f (.sl nx 0 m m) h)))) m) (fun _ _ _ _ _ => false) (fun _ _ _ => false) (fun _ => false) (fun _ _ => false) (fun _ _ => false) (fun _ => false) (fun b o n c => appB sz h b o n c m l f) (fun _ _ => false) (fun _ => false) (fun _ _ => false) () (fun _ _ _ _ => ()) v)) t) t⟩ else badE
    | none => badE
  | _ => badE
def opCopy (P : Program) (ty : Nat) (x y : Operand) : Eo :=
  match P.underlying ty with
  | some (.slice e) =>
    if szOf P e = some 1 then ⟨fun _ t h f => (gt x).run (onSl (fun b o n _ => (gt y).run (onSl (fun b2 o2 n2 _ => Nat.rec (motive := fun _ => R) (f (.i .i64 0) h) (fun _ _ =>
        fc (fun m => gd (Nat.blt m 4611686018427387904) (lds h b2 o2 m (fun l => flats (sts h b o l (fun h => f (.i .i64 m) h)) l))) (Bool.rec (motive := fun _ => Nat) n2 n (Nat.ble n n2))) n)) t)) t⟩ else badE
  | _ => badE
/-- Does the program bear the function, with a body? -/
def isFn (P : Program) (g : Nat) : Bool :=
  match P.funcs[g]? with
  | some fn => fn.body.isSome && fn.name != "runtime.NumGoroutine"
  | none => false
def callK (P : Program) (g : Nat) (cH : CH) (l : List AV) (h : H) (f : AV → H → R) : R := gd (isFn P g) (cH g l h f)
def fnA (P : Program) (cH : CH) (l : List AV) (h : H) (f : AV → H → R) (v : AV) : R :=
  AV.rec (motive_1 := fun _ => R) (motive_2 := fun _ => Unit) false false (fun _ => false) (fun _ _ => false) (fun _ _ => false) (fun _ _ _ => false) false false false false false (fun y0 y1 y2 _ _ => (fun fn a c => Fn.rec (motive := fun _ => R) (fun g => callK P g cH (lapp a (lapp l c)) h f) (fun _ => false) (fun _ _ => false) (fun _ _ _ _ => false) (fun _ => false) fn) y0 y1 y2) (fun _ _ _ => false) (fun _ => false) (fun _ _ => false) (fun _ _ => false) (fun _ => false) (fun _ _ _ _ => false) (fun _ _ => false) (fun _ => false) (fun _ _ => false) () (fun _ _ _ _ => ()) v
/-- The method of a pointer's type. -/
def mth (P : Program) (t : Nat) (name : String) : Option Nat :=
  match P.info? t, P.underlying t with
  | some i, some (.pointer _) =>
    match i.methods.find? (·.name == name) with
    | some m => if m.path.isEmpty then (match m.func with | some (g, true) => some g | _ => none) else none
    | none => none
  | _, _ => none
/-- The library's maps.clone (no body). -/
def isClone (P : Program) (g : Nat) : Bool :=
  match P.funcs[g]? with
  | some fn => fn.body.isNone && fn.name == "maps.clone"
  | none => false
def cloneK (h : H) (l : List AV) (f : AV → H → R) : R :=
  nth 0 l (fun v => AV.rec (motive_1 := fun _ => R) (motive_2 := fun _ => Unit) false false (fun _ => false) (fun _ _ => false) (fun _ _ => false) (fun _ _ _ => false) false false false false false (fun _ _ _ _ _ => false) (fun y0 y1 _ => (fun t u => AV.rec (motive_1 := fun _ => R) (motive_2 := fun _ => Unit) false false (fun _ => false) (fun _ _ => false) (fun _ _ => false) (fun _ _ _ => false) false false false false false (fun _ _ _ _ _ => false) (fun _ _ _ => false) (fun r => ldM h r (fun es c => new h (.mp es c) (fun nx h => f (.ifc t (.m nx)) h))) (fun _ _ => false) (fun _ _ => false) (fun _ => false) (fun _ _ _ _ => false) (fun _ _ => false) (fun _ => false) (fun _ _ => false) () (fun _ _ _ _ => ()) u) y0 y1) (fun _ => false) (fun _ _ => false) (fun _ _ => false) (fun _ => false) (fun _ _ _ _ => false) (fun _ _ => false) (fun _ => false) (fun _ _ => false) () (fun _ _ _ _ => ()) v)
def opCall (P : Program) (c : Call) : Eo :=
  match c.callee with
  | .value (.func g) => if isFn P g then ⟨fun cH t h f => (gts c.args.toList).run (fun l => cH g l h f) t⟩ else if isClone P g then ⟨fun _ t h f => (gts c.args.toList).run (fun l => gd (Nat.beq (llen l) 1) (cloneK h l f)) t⟩ else badE
  | .value x => ⟨fun cH t h f => (gt x).run (fun v => (gts c.args.toList).run (fun l => fnA P cH l h f v) t) t⟩
  | .invoke x name => ⟨fun cH t h f => (gt x).run (fun v => (gts c.args.toList).run (fun l =>
      AV.rec (motive_1 := fun _ => R) (motive_2 := fun _ => Unit) false false (fun _ => false) (fun _ _ => false) (fun _ _ => false) (fun _ _ _ => false) false false false false false (fun _ _ _ _ _ => false) (fun y0 y1 _ => (fun ty u => Option.rec (motive := fun _ => R) false (fun g => callK P g cH (u :: l) h f) (mth P ty name)) y0 y1) (fun _ => false) (fun _ _ => false) (fun _ _ => false) (fun _ => false) (fun _ _ _ _ => false) (fun _ _ => false) (fun _ => false) (fun _ _ => false) () (fun _ _ _ _ => ()) v) t) t⟩
  | .builtin .append =>
    match c.args.toList, c.argTypes.toList with
    | [x, y], [a, b] => opAppend P a b x y
    | _, _ => badE
  | .builtin .copy =>
    match c.args.toList, c.argTypes.toList with
    | [x, y], a :: _ => opCopy P a x y
    | _, _ => badE
  | .builtin .delete =>
    match c.args.toList, c.argTypes.toList with
    | [x, y], a :: _ => opDelete P a x y
    | _, _ => badE
  | .builtin .clear =>
    match c.args.toList, c.argTypes.toList with
    | [x], a :: _ => opClear P a x
    | _, _ => badE
  | _ => badE
/-- A range over a map that has no entry. -/
def noneE {α : Type} (r : R) (es : List α) : R := List.rec (motive := fun _ => R) r (fun _ _ _ => false) es
def opRange (P : Program) (ty : Nat) (x : Operand) : Eo :=
  match P.underlying ty with
  | some (.map _ _) => ⟨fun _ t h f => (gt x).run (fun v => AV.rec (motive_1 := fun _ => R) (motive_2 := fun _ => Unit) false false (fun _ => false) (fun _ _ => false) (fun _ _ => false) (fun _ _ _ => false) false false false false false (fun _ _ _ _ _ => false) (fun _ _ _ => false) (fun r => ldM h r (fun es _ => noneE (new h (.it (some r) 0 [] 0) (fun nx h => f (.p nx 0) h)) es)) (fun _ _ => false) (fun _ _ => false) (fun _ => false) (fun _ _ _ _ => false) (fun _ _ => false) (fun _ => false) (fun _ _ => false) () (fun _ _ _ _ => ()) v) t⟩
  | _ => badE
def itK (h : H) (b : Nat) (f : Nat → R) : R := onH (fun ht _ => (acc Blk 5 b).run (fun k => Blk.rec (motive := fun _ => R) false (fun m _ _ _ => Option.rec (motive := fun _ => R) false f m) (fun _ _ => false) (fun _ _ _ _ => false) k) ht) h
def opNext (x : Operand) (s : Bool) : Eo :=
  match s with
  | true => badE
  | false => ⟨fun _ t h f => (gt x).run (onP (fun b o => gd (Nat.beq o 0) (itK h b (fun r => ldM h r (fun es _ => noneE (f (.tu [.b false]) h) es))))) t⟩
def eop (P : Program) (o : Oper) : Eo :=
  match o.op with
  | .assign x => ⟨fun _ t h f => (gt x).run (fun v => f v h) t⟩
  | .store ty x y => opStore P ty x y
  | .mapUpdate ty m k v => opMapUpdate P ty m k v
  | .call c => opCall P c
  | .range ty x => opRange P ty x
  | .next x s => opNext x s
  | _ => badE

/-! ### Regions -/
def clV (g : Vo) (d : Pt) : Cl := ⟨fun _ t h k => g.run t h (fun v => d.run v (fun t => k t h) t)⟩
def clM (g : Mk) (d : Pt) : Cl := ⟨fun _ t h k => g.run t h (fun nx v b => d.run v (fun t => onH (fun ht _ => (pcc Blk 5 nx).run b (fun ht => fc (fun m => k t (.mk ht m)) (Nat.add nx 1)) ht) h) t)⟩
def clE (g : Eo) (d : Pt) : Cl := ⟨fun cH t h k => g.run cH t h (fun v h => d.run v (fun t => k t h) t)⟩
def comp (P : Program) (o : Oper) : Cl :=
  match vop P o with
  | some g => clV g (pt o.dst)
  | none =>
    match mop P o with
    | some g => clM g (pt o.dst)
    | none => clE (eop P o) (pt o.dst)
/-- Under a guard: what the guard's operation gave is a Bool, or nothing. -/
def guarded (g : Gt) (want : Bool) (d : Pt) (c : Cl) : Cl :=
  ⟨fun cH t h k => g.run (fun v => AV.rec (motive_1 := fun _ => R) (motive_2 := fun _ => Unit) false false (fun _ => false) (fun _ _ => false) (fun _ _ => false) (fun _ _ _ => false) false false false false false (fun _ _ _ _ _ => false) (fun _ _ _ => false) (fun _ => false) (fun y0 _ => (fun l => List.rec (motive := fun _ => R) (d.run (.tu []) (fun t => k t h) t) (fun _ _ _ => false) l) y0) (fun _ _ => false) (fun _ => false) (fun _ _ _ _ => false) (fun _ _ => false) (fun x => Bool.rec (motive := fun _ => R) (d.run (.tu []) (fun t => k t h) t) (c.run cH t h k) (beqB x want)) (fun _ _ => false) () (fun _ _ _ _ => ()) v) t⟩
def slotOf (ops : Array Oper) (j : Nat) : Gt :=
  match (ops[j]?).bind (·.dst) with
  | some d => acc AV 3 d
  | none => gbad
def opG (P : Program) (ops : Array Oper) (o : Oper) : Cl :=
  match o.guard with
  | none => comp P o
  | some (j, want) => guarded (slotOf ops j) want (pt o.dst) (comp P o)
def clSeq (a b : Cl) : Cl := ⟨fun cH t h k => a.run cH t h (fun t h => b.run cH t h k)⟩
def clNil : Cl := ⟨fun _ t h k => k t h⟩
def plain (P : Program) (ops : Array Oper) (l : List Oper) : Cl := List.rec (motive := fun _ => Cl) clNil (fun o _ ih => clSeq (opG P ops o) ih) l
/-- A value as it was. -/
def aeq (x : AV) : AV → Bool :=
  AV.rec (motive_1 := fun _ => AV → Bool) (motive_2 := fun _ => List AV → Bool)
    (fun _ => false) (fun _ => false) (fun _ _ => false) (fun n c y => AV.rec (motive_1 := fun _ => Bool) (motive_2 := fun _ => Unit) false false (fun _ => false) (fun m d => and (Nat.beq n m) (Nat.beq c d)) (fun _ _ => false) (fun _ _ _ => false) false false false false false (fun _ _ _ _ _ => false) (fun _ _ _ => false) (fun _ => false) (fun _ _ => false) (fun _ _ => false) (fun _ => false) (fun _ _ _ _ => false) (fun _ _ => false) (fun _ => false) (fun _ _ => false) () (fun _ _ _ _ => ()) y) (fun _ _ _ => false) (fun _ _ _ _ => false)
    (fun y => AV.rec (motive_1 := fun _ => Bool) (motive_2 := fun _ => Unit) false false (fun _ => false) (fun _ _ => false) (fun _ _ => false) (fun _ _ _ => false) true false false false false (fun _ _ _ _ _ => false) (fun _ _ _ => false) (fun _ => false) (fun _ _ => false) (fun _ _ => false) (fun _ => false) (fun _ _ _ _ => false) (fun _ _ => false) (fun _ => false) (fun _ _ => false) () (fun _ _ _ _ => ()) y) (fun y => AV.rec (motive_1 := fun _ => Bool) (motive_2 := fun _ => Unit) false false (fun _ => false) (fun _ _ => false) (fun _ _ => false) (fun _ _ _ => false) false true false false false (fun _ _ _ _ _ => false) (fun _ _ _ => false) (fun _ => false) (fun _ _ => false) (fun _ _ => false) (fun _ => false) (fun _ _ _ _ => false) (fun _ _ => false) (fun _ => false) (fun _ _ => false) () (fun _ _ _ _ => ()) y) (fun y => AV.rec (motive_1 := fun _ => Bool) (motive_2 := fun _ => Unit) false false (fun _ => false) (fun _ _ => false) (fun _ _ => false) (fun _ _ _ => false) false false true false false (fun _ _ _ _ _ => false) (fun _ _ _ => false) (fun _ => false) (fun _ _ => false) (fun _ _ => false) (fun _ => false) (fun _ _ _ _ => false) (fun _ _ => false) (fun _ => false) (fun _ _ => false) () (fun _ _ _ _ => ()) y) (fun y => AV.rec (motive_1 := fun _ => Bool) (motive_2 := fun _ => Unit) false false (fun _ => false) (fun _ _ => false) (fun _ _ => false) (fun _ _ _ => false) false false false true false (fun _ _ _ _ _ => false) (fun _ _ _ => false) (fun _ => false) (fun _ _ => false) (fun _ _ => false) (fun _ => false) (fun _ _ _ _ => false) (fun _ _ => false) (fun _ => false) (fun _ _ => false) () (fun _ _ _ _ => ()) y) (fun y => AV.rec (motive_1 := fun _ => Bool) (motive_2 := fun _ => Unit) false false (fun _ => false) (fun _ _ => false) (fun _ _ => false) (fun _ _ _ => false) false false false false true (fun _ _ _ _ _ => false) (fun _ _ _ => false) (fun _ => false) (fun _ _ => false) (fun _ _ => false) (fun _ => false) (fun _ _ _ _ => false) (fun _ _ => false) (fun _ => false) (fun _ _ => false) () (fun _ _ _ _ => ()) y)
    (fun fn _ _ ih1 ih2 y => AV.rec (motive_1 := fun _ => Bool) (motive_2 := fun _ => Unit) false false (fun _ => false) (fun _ _ => false) (fun _ _ => false) (fun _ _ _ => false) false false false false false (fun y0 y1 y2 _ _ => (fun gn a c => and (match fn, gn with | .func i, .func j => Nat.beq i j | _, _ => false) (and (ih1 a) (ih2 c))) y0 y1 y2) (fun _ _ _ => false) (fun _ => false) (fun _ _ => false) (fun _ _ => false) (fun _ => false) (fun _ _ _ _ => false) (fun _ _ => false) (fun _ => false) (fun _ _ => false) () (fun _ _ _ _ => ()) y)
    (fun t _ ih y => AV.rec (motive_1 := fun _ => Bool) (motive_2 := fun _ => Unit) false false (fun _ => false) (fun _ _ => false) (fun _ _ => false) (fun _ _ _ => false) false false false false false (fun _ _ _ _ _ => false) (fun y0 y1 _ => (fun u v => and (Nat.beq t u) (ih v)) y0 y1) (fun _ => false) (fun _ _ => false) (fun _ _ => false) (fun _ => false) (fun _ _ _ _ => false) (fun _ _ => false) (fun _ => false) (fun _ _ => false) () (fun _ _ _ _ => ()) y)
    (fun r y => AV.rec (motive_1 := fun _ => Bool) (motive_2 := fun _ => Unit) false false (fun _ => false) (fun _ _ => false) (fun _ _ => false) (fun _ _ _ => false) false false false false false (fun _ _ _ _ _ => false) (fun _ _ _ => false) (fun q => Nat.beq r q) (fun _ _ => false) (fun _ _ => false) (fun _ => false) (fun _ _ _ _ => false) (fun _ _ => false) (fun _ => false) (fun _ _ => false) () (fun _ _ _ _ => ()) y)
    (fun _ ih y => AV.rec (motive_1 := fun _ => Bool) (motive_2 := fun _ => Unit) false false (fun _ => false) (fun _ _ => false) (fun _ _ => false) (fun _ _ _ => false) false false false false false (fun _ _ _ _ _ => false) (fun _ _ _ => false) (fun _ => false) (fun y0 _ => ih y0) (fun _ _ => false) (fun _ => false) (fun _ _ _ _ => false) (fun _ _ => false) (fun _ => false) (fun _ _ => false) () (fun _ _ _ _ => ()) y)
    (fun _ ih y => AV.rec (motive_1 := fun _ => Bool) (motive_2 := fun _ => Unit) false false (fun _ => false) (fun _ _ => false) (fun _ _ => false) (fun _ _ _ => false) false false false false false (fun _ _ _ _ _ => false) (fun _ _ _ => false) (fun _ => false) (fun _ _ => false) (fun y0 _ => ih y0) (fun _ => false) (fun _ _ _ _ => false) (fun _ _ => false) (fun _ => false) (fun _ _ => false) () (fun _ _ _ _ => ()) y)
    (fun l y => AV.rec (motive_1 := fun _ => Bool) (motive_2 := fun _ => Unit) false false (fun _ => false) (fun _ _ => false) (fun _ _ => false) (fun _ _ _ => false) false false false false false (fun _ _ _ _ _ => false) (fun _ _ _ => false) (fun _ => false) (fun _ _ => false) (fun _ _ => false) (fun m => leq l m) (fun _ _ _ _ => false) (fun _ _ => false) (fun _ => false) (fun _ _ => false) () (fun _ _ _ _ => ()) y)
    (fun b o n c y => AV.rec (motive_1 := fun _ => Bool) (motive_2 := fun _ => Unit) false false (fun _ => false) (fun _ _ => false) (fun _ _ => false) (fun _ _ _ => false) false false false false false (fun _ _ _ _ _ => false) (fun _ _ _ => false) (fun _ => false) (fun _ _ => false) (fun _ _ => false) (fun _ => false) (fun b2 o2 n2 c2 => and (Nat.beq b b2) (and (Nat.beq o o2) (and (Nat.beq n n2) (Nat.beq c c2)))) (fun _ _ => false) (fun _ => false) (fun _ _ => false) () (fun _ _ _ _ => ()) y)
    (fun b o y => AV.rec (motive_1 := fun _ => Bool) (motive_2 := fun _ => Unit) false false (fun _ => false) (fun _ _ => false) (fun _ _ => false) (fun _ _ _ => false) false false false false false (fun _ _ _ _ _ => false) (fun _ _ _ => false) (fun _ => false) (fun _ _ => false) (fun _ _ => false) (fun _ => false) (fun _ _ _ _ => false) (fun b2 o2 => and (Nat.beq b b2) (Nat.beq o o2)) (fun _ => false) (fun _ _ => false) () (fun _ _ _ _ => ()) y)
    (fun x y => AV.rec (motive_1 := fun _ => Bool) (motive_2 := fun _ => Unit) false false (fun _ => false) (fun _ _ => false) (fun _ _ => false) (fun _ _ _ => false) false false false false false (fun _ _ _ _ _ => false) (fun _ _ _ => false) (fun _ => false) (fun _ _ => false) (fun _ _ => false) (fun _ => false) (fun _ _ _ _ => false) (fun _ _ => false) (fun z => beqB x z) (fun _ _ => false) () (fun _ _ _ _ => ()) y)
    (fun k a y => AV.rec (motive_1 := fun _ => Bool) (motive_2 := fun _ => Unit) false false (fun _ => false) (fun _ _ => false) (fun _ _ => false) (fun _ _ _ => false) false false false false false (fun _ _ _ _ _ => false) (fun _ _ _ => false) (fun _ => false) (fun _ _ => false) (fun _ _ => false) (fun _ => false) (fun _ _ _ _ => false) (fun _ _ => false) (fun _ => false) (fun j b => and (Nat.beq (kc k) (kc j)) (Nat.beq a b)) () (fun _ _ _ _ => ()) y)
    (fun l => List.rec (motive := fun _ => Bool) true (fun _ _ _ => false) l)
    (fun _ _ ih1 ih2 l => List.rec (motive := fun _ => Bool) false (fun y l _ => and (ih1 y) (ih2 l)) l) x
/-- The value of a read is still what stands in its slot. -/
def still (P : Program) (ops : Array Oper) (i : Nat) : Cl :=
  match ops[i]? with
  | some o =>
    match vop P o with
    | some g =>
      match o.dst with
      | some d =>
        match o.guard with
        | none => ⟨fun _ t h k => g.run t h (fun v => (acc AV 3 d).run (fun u => gd (aeq u v) (k t h)) t)⟩
        | some (j, want) => guarded (slotOf ops j) want (pt none) ⟨fun _ t h k => g.run t h (fun v => (acc AV 3 d).run (fun u => gd (aeq u v) (k t h)) t)⟩
      | none => badC
    | none => badC
  | none => badC
/-- A drawn region's plan: (false, i): i is reckoned as soon as it may; (true, i): i turns something. Behind it the reads of the list are looked at anew. -/
inductive Pl where
  | ev (i : Nat)
  | ef (i : Nat) (rs : List Nat)
def opI (P : Program) (ops : Array Oper) (i : Nat) : Cl :=
  match ops[i]? with
  | some o => opG P ops o
  | none => badC
def stills (P : Program) (ops : Array Oper) (l : List Nat) : Cl := List.rec (motive := fun _ => Cl) clNil (fun i _ ih => clSeq (still P ops i) ih) l
def drawn (P : Program) (ops : Array Oper) (l : List Pl) : Cl :=
  List.rec (motive := fun _ => Cl) clNil (fun p _ ih => match p with
    | .ev i => clSeq (opI P ops i) ih
    | .ef i rs => clSeq (opI P ops i) (clSeq (stills P ops rs) ih)) l

/-! ### Code -/
def ccS : CC := ⟨fun _ _ _ t h k => k t h⟩
def ccN : CC := ⟨fun _ _ _ _ _ _ => false⟩
def ccR (c : Cl) : CC := ⟨fun cH _ _ t h k => c.run cH t h k⟩
def ccQ (a b : CC) : CC := ⟨fun cH E Z t h k => a.run cH E Z t h (fun t h => b.run cH E Z t h k)⟩
def ccC (c : Gt) (a b : CC) : CC := ⟨fun cH E Z t h k => c.run (onBu (Bool.rec false (b.run cH E Z t h k) (a.run cH E Z t h k)) (fun x => Bool.rec (motive := fun _ => R) (b.run cH E Z t h k) (a.run cH E Z t h k) x)) t⟩
def ccB (id : Nat) (a : CC) : CC := ⟨fun cH E Z t h k => a.run cH (fun j t h => Bool.rec (motive := fun _ => R) (E j t h) (k t h) (Nat.beq j id)) Z t h k⟩
def ccL (a : CC) : CC := ⟨fun cH E Z t h _ => Nat.rec (motive := fun _ => KT) (fun _ _ => false) (fun _ ih t h => a.run cH E Z t h ih) 1000000 t h⟩
def compC (P : Program) (pl : Nat → Option (List Pl)) (c : Code) : CC :=
  Code.rec (motive := fun _ => CC) ccS
    (fun id ops dr => match dr with
      | false => ccR (plain P ops ops.toList)
      | true => match pl id with
        | some l => ccR (drawn P ops l)
        | none => ccN)
    (fun _ _ a b => ccQ a b) (fun c _ _ a b => ccC (gt c) a b) (fun id _ a => ccB id a) (fun _ a => ccL a) (fun _ _ _ _ _ _ => ccN)
    (fun id => ⟨fun _ E _ t h _ => E id t h⟩) (fun _ a => a) (fun _ => ccS) (fun _ => ccN) ⟨fun _ _ Z t h _ => Z t h⟩ (fun _ => ccN) c

/-! ### Functions -/
def results1 (P : Program) (r : ResultVar) : Vo :=
  match r with
  | .tmp x => ⟨fun t _ f => (acc AV 3 x).run f t⟩
  | .cell x ty => opLoad P ty (.tmp x)
def resL (P : Program) (l : List ResultVar) : T → H → (List AV → R) → R :=
  List.rec (motive := fun _ => T → H → (List AV → R) → R) (fun _ _ f => f []) (fun r _ ih t h f => (results1 P r).run t h (fun v => ih t h (fun vs => f (v :: vs)))) l
def resOf (P : Program) (l : List ResultVar) : Vo :=
  match l with
  | [r] => results1 P r
  | l => ⟨fun t h f => resL P l t h (fun vs => f (.tu vs))⟩
def T0 : T := dflt .un 3
def argsT (l : List AV) : Nat → T → (T → R) → R :=
  List.rec (motive := fun _ => Nat → T → (T → R) → R) (fun _ t f => f t) (fun v _ ih o t f => (pcc AV 3 o).run v (fun t => fc (fun o => ih o t f) (Nat.add o 1)) t) l
/-- The plans of the drawn regions: of function, of region. -/
abbrev Plans := Nat → Nat → Option (List Pl)
def body (P : Program) (pls : Plans) (g : Nat) : FF :=
  match P.funcs[g]? with
  | some fn =>
    match fn.body with
    | some c => ⟨fun cH l h k => argsT l 0 T0 (fun t => (compC P (pls g) c).run cH (fun _ _ _ => false) (fun t h => (resOf P fn.results.toList).run t h (fun v => k v h)) t h (fun t h => (resOf P fn.results.toList).run t h (fun v => k v h)))⟩
    | none => ⟨fun _ _ _ _ => false⟩
  | none => ⟨fun _ _ _ _ => false⟩
/-- What is said of a function by a law of its own. -/
abbrev Sums := Nat → Option FF
def fnF (P : Program) (pls : Plans) (sm : Sums) (g : Nat) : FF :=
  match sm g with
  | some x => x
  | none => body P pls g
def run (P : Program) (pls : Plans) (sm : Sums) (n : Nat) : CH := Nat.rec (motive := fun _ => CH) (fun _ _ _ _ => false) (fun _ ih g l h k => (fnF P pls sm g).run ih l h k) n
end
end Go.Proofs.YtbpdomemnecioaaGreatDoor.Ev
