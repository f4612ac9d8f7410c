/- An abstract machine over memory with numbered blocks: what a piece of the program asks of what follows it, as a predicate over values and abstract memory. No condition: definitions. -/
import Derived.Below
import Derived.Calls
import Derived.ChangeArms
import Derived.ChangeKeysEq
import Derived.ChangeShapes
import Derived.Deep.Slices
import Derived.KernelRfl
import Derived.Laws.Append
import Derived.Laws.BytesString
import Derived.Laws.Cells
import Derived.Laws.Entries
import Derived.Laws.IdiomCopy
import Derived.Laws.Sem
import Derived.Laws.StructEq
import Derived.LoopN
import Derived.OpenShut
import Derived.Orders
import Derived.Scope
import Derived.Test.YtkiggdgphbkneaaGreatProg
import Derived.Wp
namespace Go.Proofs.YtkiggdgphbkneaaGreat.Am
set_option linter.unusedVariables false
inductive Cap
 | ex (c : Nat)
 | ge (esz k : Nat)
inductive AV
 | flat (v : Value)
 | ptr (b o : Nat)
 | sl (b o len : Nat) (cap : Cap)
 /-- a slice of length 0, its place and room unknown, not nil -/
 | e0
 /-- a map: a block without cells, its entries (the number of them in the place of the type) a key and a value in turn -/
 | mp (b : Nat)
 | agg (n : Nat) (c : Nat -> AV)
 | tup (vs : List AV)
 /-- a channel: nothing is known of it -/
 | ch
 /-- a function with what it holds on to -/
 | clo (f : FuncId) (vs : List AV)
 | junk
structure Blk where
 n : Nat
 c : Nat -> AV
 t : TypeId
 ro : Bool
structure Mem where
 obj : Nat -> Option Blk
 fin : ∃ N, ∀ b, N <= b -> obj b = none
def upd {α : Type} (s : Nat -> α) (i : Nat) (v : α) : Nat -> α := fun j => if j = i then v else s j
theorem yHn (f : Nat -> Option Blk) (h : ∃ N, ∀ b, N <= b -> f b = none) (i : Nat) (v : Option Blk) : ∃ N, ∀ b, N <= b -> upd f i v b = none := by
 obtain ⟨N, h⟩ := h
 refine ⟨max N (i + 1), fun b hb => ?_⟩
 unfold upd
 rw [if_neg (by omega)]
 exact h b (by omega)
def zH : List AV -> Nat -> AV
 | [], _ => .junk
 | x :: _, 0 => x
 | _ :: l, i + 1 => zH l i
def sub (c : Nat -> AV) (o n : Nat) : Nat -> AV := fun i => if i < n then c (o + i) else .junk
def zC (c : Nat -> AV) (o n : Nat) (d : Nat -> AV) : Nat -> AV := fun j => if o <= j /\ j < o + n then d (j - o) else c j
def Mem.set (m : Mem) (b : Nat) (x : Blk) : Mem := ⟨upd m.obj b (some x), yHn m.obj m.fin b (some x)⟩
def zQ (m : Mem) (x : Blk) (k : Nat -> Mem -> Prop) : Prop := ∀ b, m.obj b = none -> k b (m.set b x)
def zA (m m' : Mem) : Prop := ∀ b, m.obj b ≠ none -> m'.obj b = m.obj b
def zV (F : Nat -> Prop) (m m' : Mem) : Prop := ∀ b, F b -> m.obj b ≠ none -> m'.obj b = m.obj b
def AV.inDom (m : Mem) (v : AV) : Prop := match v with
 | .ptr b _ => m.obj b ≠ none
 | .sl b _ _ _ => m.obj b ≠ none
 | .mp b => m.obj b ≠ none
 | .clo _ _ => False
 | _ => True
def xZ (n : Nat) (m : Mem) (c : Nat -> AV) : Prop := ∀ i, i < n -> (c i).inDom m
abbrev zMr : Value -> AV
 | .agg cs => match cs.toList.all Value.oneCell with
  | true => .agg cs.size (zH (cs.toList.map AV.flat))
  | false => .junk
 | v => .flat v
abbrev zS (σ : Nat -> AV) : Operand -> AV
 | .tmp t => σ t
 | .const v => zMr v
 | .global _ => .junk
 | .func f => .flat (.func (.func f) #[] #[])
def AV.isFlat : AV -> Bool
 | .flat _ => true
 | _ => false
def AV.val : AV -> Value
 | .flat v => v
 | _ => .tuple #[]
def AV.one : AV -> Bool
 | .flat v => v.oneCell
 | .ptr _ _ | .sl _ _ _ _ | .e0 | .mp _ | .ch => true
 | _ => false
def pv {α : Type} (P : Program) : Sem α -> Option α
 | .pure a => some a
 | .program k => pv P (k P)
 | _ => none
abbrev KV := AV -> Mem -> Prop
def bp0 : Unit := ()
def bp1 : Unit := bp0
def bp2 : Unit := bp1
def bp3 : Unit := bp2
def bp4 : Unit := bp3
def bp5 : Unit := bp4
def bp6 : Unit := bp5
def bp7 : Unit := bp6
def bp8 : Unit := bp7
def bp9 : Unit := bp8
def xFk : Unit := bp9
def xAk : Unit := xFk
def xBv : Unit := xAk
def xDn : Unit := xBv
def xIi : Unit := xDn
def xHf : Unit := xIi
def xD4 : Unit := xHf
def xBr : Unit := xD4
def xC4 : Unit := xBr
def xDj : Unit := xC4
def xKw : Unit := xDj
def xJ9 : Unit := xKw
def xJ4 : Unit := xJ9
def xKu : Unit := xJ4
def xFv : Unit := xKu
def xHn : Unit := xFv
def xKt : Unit := xHn
def xJu : Unit := xKt
def xCa : Unit := xJu
def xHi : Unit := xCa
def xI6 : Unit := xHi
def xFw : Unit := xI6
def xG5 : Unit := xFw
def xIm : Unit := xG5
def xBh : Unit := xIm
def xJw : Unit := xBh
def xDs : Unit := xJw
def xDe : Unit := xDs
def xEv : Unit := xDe
def xBp : Unit := xEv
def xF2 : Unit := xBp
def xD9 : Unit := xF2
def xFt : Unit := xD9
def xCv : Unit := xFt
def xIp : Unit := xCv
def xL4 : Unit := xIp
def xBg : Unit := xL4
def xB2 : Unit := xBg
def xJd : Unit := xB2
def xHz : Unit := xJd
def xH2 : Unit := xHz
def xIo : Unit := xH2
def xJ7 : Unit := xIo
def xF1 : Unit := xJ7
def xHm : Unit := xF1
def xHq : Unit := xHm
def xC7 : Unit := xHq
def xBm : Unit := xC7
def xGj : Unit := xBm
def xCi : Unit := xGj
def xCu : Unit := xCi
def xCp : Unit := xCu
def xKf : Unit := xCp
def xFe : Unit := xKf
def xH5 : Unit := xFe
def xJx : Unit := xH5
def xJk : Unit := xJx
def xEp : Unit := xJk
def xIg : Unit := xEp
def xB7 : Unit := xIg
def xEo : Unit := xB7
def xJz : Unit := xEo
def xIr : Unit := xJz
def xE1 : Unit := xIr
def xFo : Unit := xE1
def xC9 : Unit := xFo
def xEz : Unit := xC9
def xDi : Unit := xEz
def xHb : Unit := xDi
def xEw : Unit := xHb
def xDw : Unit := xEw
def xF4 : Unit := xDw
def xFn : Unit := xF4
def xIu : Unit := xFn
def xI9 : Unit := xIu
def xE2 : Unit := xI9
def xCd : Unit := xE2
def xFx : Unit := xCd
def xI2 : Unit := xFx
def xGd : Unit := xI2
def xGv : Unit := xGd
def xL0 : Unit := xGv
def xEq : Unit := xL0
def xC6 : Unit := xEq
def xDt : Unit := xC6
def xK8 : Unit := xDt
def xFs : Unit := xK8
def xFh : Unit := xFs
def xDf : Unit := xFh
def xK4 : Unit := xDf
def yX7 : Unit := xK4
def ySx : Unit := yX7
def yYa : Unit := ySx
def yXj : Unit := yYa
def yS9 : Unit := yXj
def yVo : Unit := yS9
def yTh : Unit := yVo
def yWv : Unit := yTh
def yWe : Unit := yWv
def yWq : Unit := yWe
def yZ5 : Unit := yWq
def yYr : Unit := yZ5
def yUk : Unit := yYr
def yWw : Unit := yUk
def yU4 : Unit := yWw
def yU0 : Unit := yU4
def ySv : Unit := yU0
def yWg : Unit := ySv
def yZ6 : Unit := yWg
def yY4 : Unit := yZ6
def yZ4 : Unit := yY4
def yT7 : Unit := yZ4
def yUq : Unit := yT7
def yTu : Unit := yUq
def yXq : Unit := yTu
def yTl : Unit := yXq
def yTy : Unit := yTl
def yVr : Unit := yTy
def yUi : Unit := yVr
def yWs : Unit := yUi
def yT3 : Unit := yWs
def yUz : Unit := yT3
def yV9 : Unit := yUz
def yUf : Unit := yV9
def yVa : Unit := yUf
def yWu : Unit := yVa
def yTs : Unit := yWu
def yW6 : Unit := yTs
def ySs : Unit := yW6
def ySl : Unit := ySs
def yRv : Unit := ySl
def yYw : Unit := yRv
def yWc : Unit := yYw
def yS3 : Unit := yWc
def yYc : Unit := yS3
def yTn : Unit := yYc
def yXp : Unit := yTn
def yTb : Unit := yXp
def yVj : Unit := yTb
def yS6 : Unit := yVj
def yUr : Unit := yS6
def yVt : Unit := yUr
def yYd : Unit := yVt
def yXn : Unit := yYd
def yRq : Unit := yXn
def yVz : Unit := yRq
def yUw : Unit := yVz
def yVf : Unit := yUw
def yT4 : Unit := yVf
def yTq : Unit := yT4
def yWi : Unit := yTq
def ySd : Unit := yWi
def yUx : Unit := ySd
def yRn : Unit := yUx
def yWx : Unit := yRn
def yVh : Unit := yWx
def yTd : Unit := yVh
def yUj : Unit := yTd
def yY6 : Unit := yUj
def yV2 : Unit := yY6
def yX2 : Unit := yV2
def yVq : Unit := yX2
def yW2 : Unit := yVq
def yU1 : Unit := yW2
def yYg : Unit := yU1
def yW1 : Unit := yYg
def yWz : Unit := yW1
def ySz : Unit := yWz
def yTo : Unit := ySz
def yYm : Unit := yTo
def yV4 : Unit := yYm
def yY9 : Unit := yV4
def yT1 : Unit := yY9
def yVw : Unit := yT1
def yY8 : Unit := yVw
def yUu : Unit := yY8
def ySi : Unit := yUu
def yUy : Unit := ySi
def yXh : Unit := yUy
def yXw : Unit := yXh
def yWr : Unit := yXw
def ySg : Unit := yWr
def yX3 : Unit := ySg
def yW9 : Unit := yX3
def yXo : Unit := yW9
def ySm : Unit := yXo
def yRt : Unit := ySm
def yVp : Unit := yRt
def yZ2 : Unit := yVp
def yVi : Unit := yZ2
def yV5 : Unit := yVi
def yX1 : Unit := yV5
def yVk : Unit := yX1
def yW7 : Unit := yVk
def yXa : Unit := yW7
def yYq : Unit := yXa
def ySa : Unit := yYq
def yRy : Unit := ySa
def yY3 : Unit := yRy
def yY7 : Unit := yY3
def yUs : Unit := yY7
def yY1 : Unit := yUs
def yUn : Unit := yY1
def yY5 : Unit := yUn
def yYp : Unit := yY5
def yYv : Unit := yYp
def yXc : Unit := yYv
def yS1 : Unit := yXc
def yTx : Unit := yS1
def yVu : Unit := yTx
def yYu : Unit := yVu
def yVy : Unit := yYu
def yTv : Unit := yVy
def yU5 : Unit := yTv
def yTz : Unit := yU5
def yUb : Unit := yTz
def yY0 : Unit := yUb
def yRp : Unit := yY0
def ySr : Unit := yRp
def yU9 : Unit := ySr
def yXm : Unit := yU9
def yZa : Unit := yXm
def yW8 : Unit := yZa
def yXe : Unit := yW8
def yUl : Unit := yXe
def yY2 : Unit := yUl
def yTa : Unit := yY2
def ySo : Unit := yTa
def yRr : Unit := ySo
def yU6 : Unit := yRr
def yWd : Unit := yU6
def yT {α : Sort _} (x : α) : α := (fun _ => x) yWd
abbrev kif (b : Bool) (A B : Prop) : Prop := match b with | true => A | false => B
abbrev kite (c : Prop) [Decidable c] (A B : Prop) : Prop := match decide c with | true => A | false => B
theorem zO (c : Prop) [Decidable c] (A B : Prop) : kite c A B = if c then A else B := by
 unfold kite
 by_cases h : c
 .simp [h]
 .simp [h]
abbrev tP (v : AV) (k : Bool -> Prop) : Prop := match v with | .flat (.bool b) => k b | _ => False
abbrev qD (v : AV) (k : IntKind -> Int -> Prop) : Prop := match v with | .flat (.int i n) => k i n | _ => False
abbrev yD (v : AV) (k : Nat -> Nat -> Prop) : Prop := match v with | .ptr b o => k b o | _ => False
abbrev vD (v : AV) (k : Nat -> Nat -> Nat -> Cap -> Prop) : Prop := match v with | .sl b o l c => k b o l c | _ => False
abbrev kO (v : AV) (k : Nat -> (Nat -> AV) -> Prop) : Prop := match v with | .agg n c => k n c | _ => False
abbrev pZ (v : AV) (k : Bool -> Prop) : Prop := match v with
 | .ptr _ _ => k false
 | .flat (.pointer none) => k true
 | _ => False
abbrev zG1 (v : AV) (k : Bool -> Prop) : Prop := match v with
 | .sl _ _ _ _ => k false
 | .e0 => k false
 | .flat (.slice none _ _) => k true
 | .flat (.slice (some _) _ _) => k false
 | _ => False
abbrev xJ (v : AV) (k : Int -> Prop) : Prop := match v with
 | .sl _ _ n _ => k n
 | .e0 => k 0
 | .flat (.slice _ n _) => k n
 | _ => False
abbrev kI (kd : IntKind) (v : AV) (k : Int -> Prop) : Prop := match v with | .flat (.int kd' n) => kite (kd' = kd) (k n) False | _ => False
abbrev kS (v : AV) (k : ByteArray -> Prop) : Prop := match v with | .flat (.string s) => k s | _ => False
abbrev kA (v : AV) (k : AV -> Prop) : Prop := match v with | .junk => False | .agg _ _ => False | .tup _ => False | .clo _ _ => False | v => k v
abbrev zN3 (P : Program) (t : TypeId) (v : AV) (k : AV -> Prop) : Prop :=
 match P.underlying t with
 | some (.int kd) => kI kd v fun n => k (.flat (.int kd n))
 | some .bool => tP v fun b => k (.flat (.bool b))
 | some .string => kS v fun s => k (.flat (.string s))
 | some _ => kA v k
 | none => False
abbrev yS (P : Program) (t : TypeId) : Bool := match P.underlying t with | some (.struct _) | some (.array _ _) => true | _ => false
abbrev zAx (P : Program) (s : TypeId) (f : Nat) : Option Field := match P.underlying s with | some (.struct fs) => fs[f]? | _ => none
abbrev qM (P : Program) (t : TypeId) : Option TypeId := match P.underlying t with | some (.slice e) => some e | _ => none
abbrev kobj (m : Mem) (b : Nat) (k : Blk -> Prop) : Prop := match m.obj b with | some x => k x | none => False
abbrev zAi (P : Program) (t : TypeId) (n : Nat) (c : Nat -> AV) (off : Nat) (k : AV -> Prop) : Prop :=
 match yS P t with
 | true => kite (off + P.cellsOf t <= n) (k (.agg (P.cellsOf t) (sub c off (P.cellsOf t)))) False
 | false => kite (off < n) (zN3 P t (c off) k) False
abbrev lQ (P : Program) (t : TypeId) : Option (List AV) := match P.info? t with
 | some i => match i.zero with
  | some z => match z.cells.toList.all Value.oneCell with
   | true => some (z.cells.toList.map AV.flat)
   | false => none
  | none => none
 | none => none
abbrev kT (n : Nat) (A : Prop) : Prop := match n with | 0 => False | _ + 1 => A
def Cap.low : Cap -> Nat
 | .ex c => c
 | .ge _ k => k
abbrev ald (P : Program) (t : TypeId) (v : AV) (m : Mem) (k : AV -> Prop) : Prop := yD v fun b o => kobj m b fun x => zAi P t x.n x.c o k
abbrev ast (P : Program) (t : TypeId) (a v : AV) (m : Mem) (k : Mem -> Prop) : Prop :=
 yD a fun b o => kobj m b fun x => match x.ro with
  | true => False
  | false => match yS P t with
   | true => kO v fun n c => kif (n == P.cellsOf t) (kite (o + n <= x.n) (k (m.set b { x with c := zC x.c o n c })) False) False
   | false => match v.one with
    | true => match P.cellsOf t with
     | 1 => kite (o < x.n) (k (m.set b { x with c := upd x.c o v })) False
     | _ => False
    | false => False
abbrev zD1 (P : Program) (t : TypeId) (v : AV) : Option (Nat × (Nat -> AV)) :=
 match yS P t, v with
 | true, .agg n c => if n = P.cellsOf t then some (n, c) else none
 | false, v => match v.one with
  | true => if P.cellsOf t = 1 then some (1, zH [v]) else none
  | false => none
 | _, _ => none
abbrev zKp (P : Program) (t : TypeId) (v : AV) : Option (Nat × (Nat -> AV)) :=
 match yS P t, v with
 | true, .agg n c => if n = P.cellsOf t then some (n, c) else none
 | false, v => if P.cellsOf t = 1 then some (1, zH [v]) else none
 | _, _ => none
def kones (place : Nat -> Option (Nat × TypeId)) (P : Program) : List (Nat × AV) -> Prop -> Prop
 | [], A => A
 | (i, v) :: rest, A => match place i with
  | none => False
  | some (_, t) => match yS P t with
   | true => kones place P rest A
   | false => kif v.one (kones place P rest A) False
abbrev kone (P : Program) (t : TypeId) (v : AV) (A : Prop) : Prop := match yS P t with
 | true => A
 | false => kif v.one A False
def zBn (place : Nat -> Option (Nat × TypeId)) (P : Program) (n : Nat) : List (Nat × AV) -> (Nat -> AV) -> Option (Nat -> AV)
 | [], c => some c
 | (i, v) :: rest, c => match place i with
  | none => none
  | some (off, t) => match zKp P t v with
   | none => none
   | some (k, d) => if off + k <= n then zBn place P n rest (match k with | 1 => upd c off (d 0) | _ => zC c off k d) else none
abbrev zDx (P : Program) (t : TypeId) (parts : List (Nat × AV)) (k : AV -> Prop) : Prop :=
 match lQ P t, P.underlying t with
 | some zs, some (.struct fs) => match fs.toList.all fun f => (P.info? f.type).isSome with
  | true => match zBn (fun i => (fs[i]?).map fun f => (f.offset, f.type)) P zs.length parts (zH zs) with
   | some c => kones (fun i => (fs[i]?).map fun f => (f.offset, f.type)) P parts (k (.agg zs.length c))
   | none => False
  | false => False
 | some zs, some (.array _ e) => kT (P.cellsOf e) (match zBn (fun i => some (i * P.cellsOf e, e)) P zs.length parts (zH zs) with
  | some c => kones (fun i => some (i * P.cellsOf e, e)) P parts (k (.agg zs.length c))
  | none => False)
 | _, _ => False
def yC1 : Nat -> List AV -> List AV
 | 0, _ => []
 | n + 1, zs => zs ++ yC1 n zs
abbrev jD (P : Program) (t : TypeId) (len : Nat) (parts : List (Nat × AV)) (m : Mem) (k : KV) : Prop :=
 match qM P t with
 | some e => match lQ P e with
  | some zs => kite (zs.length = P.cellsOf e /\ len * zs.length <= 2 ^ 24 /\ 0 < zs.length)
    (match zBn (fun i => some (i * P.cellsOf e, e)) P (len * zs.length) parts (zH (yC1 len zs)) with
    | some c => kones (fun i => some (i * P.cellsOf e, e)) P parts (zQ m ⟨len * zs.length, c, e, false⟩ fun b m' => k (.sl b 0 len (.ex len)) m')
    | none => False) False
  | none => False
 | none => False
def lK (zs : List AV) : Nat -> AV := fun i => zH zs (i % zs.length)
abbrev uD (P : Program) (t : TypeId) : Nat := match P.info? t with | some i => i.bytes | none => 0
def mkS (zs : List AV) (bytes : Nat) (e : TypeId) (ln cn : Int) (m : Mem) (k : Nat -> Mem -> Prop) : Prop := kif (decide (0 <= ln)) (kif (decide (ln <= cn)) (kite (cn.toNat * (bytes + 1) <= 140737488355328)
 (zQ m ⟨cn.toNat * zs.length, lK zs, e, false⟩ fun b m' => k b m') False) False) False
abbrev eE (P : Program) (t : TypeId) (l c : AV) (m : Mem) (k : KV) : Prop :=
 match qM P t with
 | some e => match lQ P e with
  | some zs => qD l fun _ ln => qD c fun _ cn => kite (zs.length = P.cellsOf e /\ 0 < zs.length) (mkS zs (uD P e) e ln cn m fun b m' => k (.sl b 0 ln.toNat (.ex cn.toNat)) m') False
  | none => False
 | none => False
abbrev aO (esz : Nat) (x : AV) (m : Mem) (k : Nat -> (Nat -> AV) -> Prop) : Prop := match x with
 | .sl b o n _ => kobj m b fun y => kite (o + n * esz <= y.n) (k n (sub y.c o (n * esz))) False
 | .e0 => k 0 fun _ => .junk
 | .flat (.slice _ n c) => kite (n = 0 /\ c = 0) (k 0 fun _ => .junk) False
 | .flat (.string s) => kite (esz = 1) (k s.size fun i => .flat (.int .u8 (s.data.getD i 0).toNat)) False
 | _ => False
def sH (esz b o len : Nat) (cap : Cap) (n : Nat) (d : Nat -> AV) (m : Mem) (k : KV) : Prop := kobj m b fun y => match y.ro with
 | true => False
 | false => k (.sl b o (len + n) cap) (m.set b { y with n := max y.n (o + (len + n) * esz), c := zC y.c (o + len * esz) (n * esz) d })
def fY (esz : Nat) (e : TypeId) (old : Nat -> AV) (len n : Nat) (d : Nat -> AV) (m : Mem) (k : KV) : Prop :=
 zQ m ⟨(len + n) * esz, zC old (len * esz) (n * esz) d, e, false⟩ fun b m' => k (.sl b 0 (len + n) (.ge esz (len + n))) m'
def dA (esz bytes : Nat) (e : TypeId) (s : AV) (n : Nat) (d : Nat -> AV) (m : Mem) (k : KV) : Prop := match s with
  | .flat (.slice a l c) => kite (l = 0 /\ c = 0) (kite (n = 0) (k (.flat (.slice a 0 0)) m) (kite (n * (bytes + 1) <= 140737488355328) (fY esz e (fun _ => .junk) 0 n d m k) False)) False
  | .e0 => kite (n = 0) (k .e0 m) False
  | .sl b o len cap => kite (n = 0) (k (.sl b o len cap) m) (kobj m b fun y => kite (o + len * esz <= y.n /\ (len + n) * (bytes + 1) <= 140737488355328) (match cap with
    | .ex c => kite (len + n <= c) (kite (o + (len + n) * esz <= y.n) (sH esz b o len (.ex c) n d m k) False) (fY esz e (sub y.c o (len * esz)) len n d m k)
    | .ge e' q => kite (e' = esz) (kite (len + n <= q) (sH esz b o len (.ge esz q) n d m k) (sH esz b o len (.ge esz (len + n)) n d m k /\ fY esz e (sub y.c o (len * esz)) len n d m k)) False) False)
  | _ => False
def uB (esz bytes : Nat) (e : TypeId) (s x : AV) (m : Mem) (k : KV) : Prop := aO esz x m fun n d => dA esz bytes e s n d m k
def yNq (zs : List AV) (i : Nat) : AV := zH zs (i % zs.length)
def zQ6 (zs : List AV) (esz bytes : Nat) (e : TypeId) (s x : AV) (m : Mem) (k : KV) : Prop := match x with
 | .flat (.int .i64 n) => kif (decide (0 <= n)) (kite (n.toNat * (bytes + 1) <= 140737488355328) (dA esz bytes e s n.toNat (yNq zs) m k) False) False
 | _ => False
abbrev yHa (P : Program) (u : TypeId) : Bool := match P.underlying u with
 | some (.int .i64) => true
 | _ => false
abbrev yEo (P : Program) (u : TypeId) : Bool := match P.underlying u with
 | some (.slice _) | some .string => true
 | _ => false
abbrev qN (P : Program) (args : List AV) (ts : List TypeId) (m : Mem) (k : KV) : Prop := match args, ts with
 | [s, x], [t, u] => match qM P t with
  | some e => match lQ P e with
   | some zs => match yEo P u with
    | true => kite (zs.length = P.cellsOf e /\ 0 < zs.length) (uB (P.cellsOf e) (uD P e) e s x m k) False
    | false => match yHa P u with
     | true => kite (zs.length = P.cellsOf e /\ 0 < zs.length) (zQ6 zs (P.cellsOf e) (uD P e) e s x m k) False
     | false => False
   | none => False
  | none => False
 | _, _ => False
def qF (esz : Nat) (s x : AV) (m : Mem) (k : KV) : Prop :=
 aO esz x m fun n d => match s with
  | .flat (.slice _ l c) => kite (l = 0 /\ c = 0) (k (.flat (.int .i64 0)) m) False
  | .e0 => k (.flat (.int .i64 0)) m
  | .sl b o len _ => kite (min n len = 0) (k (.flat (.int .i64 0)) m) (kobj m b fun y => match y.ro with
   | true => False
   | false => kite (o + len * esz <= y.n) (k (.flat (.int .i64 (min n len : Nat))) (m.set b { y with c := zC y.c o (min n len * esz) d })) False)
  | _ => False
abbrev zWr (P : Program) (args : List AV) (ts : List TypeId) (m : Mem) (k : KV) : Prop := match args, ts with
 | [s, x], [t, u] => match qM P t with
  | some e => match yEo P u with
   | true => kT (P.cellsOf e) (qF (P.cellsOf e) s x m k)
   | false => False
  | none => False
 | _, _ => False
abbrev mB (v : AV) (k : FuncId -> List AV -> Prop) : Prop := match v with
 | .flat (.func (.func f) fst cap) => kif (fst.isEmpty && cap.isEmpty) (k f []) False
 | .clo f vs => k f vs
 | _ => False
abbrev bL (P : Program) (t : TypeId) (v : AV) (k : AV -> Prop) : Prop := match P.underlying t with
 | some (.int kd) => kI kd v fun n => k (.flat (.int kd n))
 | some .bool => tP v fun b => k (.flat (.bool b))
 | _ => k v
abbrev zTi (P : Program) (t : TypeId) : Option TypeId := match P.underlying t with
 | some (.chan _ e) => (match P.info? e with | some _ => some e | none => none)
 | _ => none
def zG8 : List AV -> Prop -> Prop
 | [], A => A
 | v :: l, A => match v with
  | .tup _ => False
  | .clo _ _ => False
  | .junk => False
  | _ => zG8 l A
abbrev zZ := FuncId -> List AV -> Mem -> KV -> Prop
abbrev eP (P : Program) (t : TypeId) (y : Operand) : Option Bool := match y with
 | .const (.pointer none) => (match P.underlying t with | some (.pointer _) => some true | _ => none)
 | .const (.slice none _ _) => (match P.underlying t with | some (.slice _) => some false | _ => none)
 | _ => none
abbrev mU (P : Program) (t : TypeId) (x i : AV) (k : AV -> Prop) : Prop :=
 qD i fun _ n => match P.underlying t with
  | some (.array len e) => kT (P.cellsOf e) (yD x fun b o => kif (decide (0 <= n) && decide (n < len)) (k (.ptr b (o + n.toNat * P.cellsOf e))) False)
  | some (.slice e) => kT (P.cellsOf e) (vD x fun b o len _ => kif (decide (0 <= n) && decide (n < len)) (k (.ptr b (o + n.toNat * P.cellsOf e))) False)
  | _ => False
abbrev zJj (P : Program) (t : TypeId) (x i : AV) (k : AV -> Prop) : Prop :=
 qD i fun _ n => match P.underlying t with
  | some (.array len e) => kT (P.cellsOf e) (kO x fun sz c => kif (decide (0 <= n) && decide (n < len)) (zAi P e sz c (n.toNat * P.cellsOf e) k) False)
  | some .string => kS x fun s => kif (decide (0 <= n) && decide (n < s.size)) (k (.flat (.int .u8 (s.data.getD n.toNat 0).toNat))) False
  | _ => False
abbrev zKc (P : Program) (t : TypeId) (x : AV) (f : Nat) (k : AV -> Prop) : Prop :=
 match zAx P t f with
 | some fd => kO x fun n c => zAi P fd.type n c fd.offset k
 | none => False
abbrev lC (P : Program) (t : TypeId) (x : AV) (f : Nat) (k : AV -> Prop) : Prop :=
 match zAx P t f with
 | some fd => kT (P.cellsOf fd.type) (yD x fun b o => k (.ptr b (o + fd.offset)))
 | none => False
abbrev bQ (σ : Nat -> AV) (x : Option Operand) (d : Int) (k : Int -> Prop) : Prop := match x with
 | none => k d
 | some y => qD (zS σ y) fun _ n => k n
abbrev zEo (b o esz : Nat) (cap : Cap) (lo hi : Nat) (k : AV -> Prop) : Prop := match cap with
 | .ex c => kite (lo < c) (k (.sl b (o + lo * esz) (hi - lo) (.ex (c - lo)))) (k (.sl b o 0 (.ex 0)))
 | .ge e q => kite (e = esz) (kite (lo < q) (k (.sl b (o + lo * esz) (hi - lo) (.ge esz (q - lo)))) (k .e0)) False
abbrev uC (σ : Nat -> AV) (low high : Option Operand) (len cap : Nat) (k : Int -> Int -> Prop) : Prop :=
 bQ σ low 0 fun lo => bQ σ high len fun hi => kif (decide (0 <= lo)) (kif (decide (lo <= hi)) (kif (decide (hi <= cap)) (k lo hi) False) False) False
abbrev zAu (P : Program) (σ : Nat -> AV) (t : TypeId) (x : AV) (low high : Option Operand) (k : AV -> Prop) : Prop :=
 match P.underlying t with
 | some .string => kS x fun s => uC σ low high s.size s.size fun lo hi => k (.flat (.string (s.extract lo.toNat hi.toNat)))
 | some (.slice e) => kT (P.cellsOf e) (match x with
  | .sl b o len cap => uC σ low high len cap.low fun lo hi => zEo b o (P.cellsOf e) cap lo.toNat hi.toNat k
  | .e0 => uC σ low high 0 0 fun lo hi => k .e0
  | .flat (.slice a l c) => kite (l = 0 /\ c = 0) (uC σ low high 0 0 fun lo hi => k (.flat (.slice a 0 0))) False
  | _ => False)
 | some (.array n e) => kT (P.cellsOf e) (yD x fun b o => uC σ low high n n fun lo hi => zEo b o (P.cellsOf e) (.ex n) lo.toNat hi.toNat k)
 | _ => False
abbrev uI (σ : Nat -> AV) (x : Option Operand) (k : Option Int -> Prop) : Prop := match x with
 | none => k none
 | some y => qD (zS σ y) fun _ n => k (some n)
abbrev xT (x : Option Int) (d : Int) : Int := match x with
 | none => d
 | some n => n
abbrev zUg (lo hi : Int) (cap : Nat) (k : Prop) : Prop := kif (decide (0 <= lo)) (kif (decide (lo <= hi)) (kif (decide (hi <= cap)) k False) False) False
def qH (esz : Nat) (x : AV) (lo hi : Option Int) (k : AV -> Prop) : Prop := match x with
 | .sl b o len cap => zUg (xT lo 0) (xT hi len) cap.low (zEo b o esz cap (xT lo 0).toNat (xT hi len).toNat k)
 | .e0 => zUg (xT lo 0) (xT hi 0) 0 (k .e0)
 | .flat (.slice a l c) => kite (l = 0 /\ c = 0) (zUg (xT lo 0) (xT hi 0) 0 (k (.flat (.slice a 0 0)))) False
 | _ => False
def slZ (s : ByteArray) (lo hi : Option Int) (k : ByteArray -> Prop) : Prop := zUg (xT lo 0) (xT hi s.size) s.size (k (s.extract (xT lo 0).toNat (xT hi s.size).toNat))
abbrev lD (P : Program) (σ : Nat -> AV) (t : TypeId) (x : AV) (low high : Option Operand) (k : AV -> Prop) : Prop :=
 uI σ low fun lo => uI σ high fun hi => match P.underlying t with
  | some .string => kS x fun s => slZ s lo hi fun z => k (.flat (.string z))
  | some (.slice e) => kT (P.cellsOf e) (qH (P.cellsOf e) x lo hi k)
  | some (.array n e) => kT (P.cellsOf e) (yD x fun b o => qH (P.cellsOf e) (.sl b o n (.ex n)) lo hi k)
  | _ => False
abbrev qC (P : Program) (σ : Nat -> AV) (o : Oper) (k : AV -> Prop) : Prop :=
 match o.op.operands.all fun x => (zS σ x).isFlat with
 | true => match pv P (execOp (fun x => (zS σ x).val) o) with
  | some (.value v) => k (zMr v)
  | _ => False
 | false => False
inductive LK
 | b
 | i (k : IntKind)
 | s
def LK.fits (k : LK) (v : AV) : Bool := match k, v with
 | .b, .flat (.bool _) => true
 | .i q, .flat (.int q' _) => decide (q = q')
 | .s, .flat (.string _) => true
 | _, _ => false
def AV.same (x y : AV) : Bool := match x, y with
 | .flat (.bool a), .flat (.bool b) => a == b
 | .flat (.int _ a), .flat (.int _ b) => a == b
 | .flat (.string a), .flat (.string b) => a.toList == b.toList
 | _, _ => false
def sU (P : Program) : Nat -> TypeId -> Option (List (Nat × LK))
 | 0, _ => yT none
 | d + 1, t => match P.underlying t with
  | some .bool => some [(0, .b)]
  | some (.int q) => some [(0, .i q)]
  | some .string => some [(0, .s)]
  | some (.array n e) => (match sU P d e with
   | some ls => some ((List.range n).flatMap fun j => ls.map fun p => (j * P.cellsOf e + p.1, p.2))
   | none => none)
  | some (.struct fs) => (match fs.toList.all (fun f => f.name != "_") && !P.stoodInHeld t with
   | true => (match fs.toList.mapM fun f => (sU P d f.type).map fun ls => ls.map fun p => (f.offset + p.1, p.2) with
    | some ll => some ll.flatten
    | none => none)
   | false => none)
  | _ => none
def oP (P : Program) : Nat -> TypeId -> Bool
 | 0, _ => yT false
 | d + 1, t => match P.underlying t with
  | some .bool => true
  | some (.int _) => true
  | some .string => true
  | some (.array n e) => oP P d e && (P.cellsOf t == n * P.cellsOf e) && Nat.ble 1 (P.cellsOf e)
  | some (.struct fs) => fs.toList.all fun f => oP P d f.type && Nat.ble (f.offset + P.cellsOf f.type) (P.cellsOf t) && Nat.ble 1 (P.cellsOf f.type)
  | _ => false
abbrev geq (ls : List (Nat × LK)) (c c' : Nat -> AV) (k : Bool -> Prop) : Prop :=
 match ls.all fun p => p.2.fits (c p.1) && p.2.fits (c' p.1) with
 | true => k (ls.all fun p => (c p.1).same (c' p.1))
 | false => False
abbrev aeq (P : Program) (t : TypeId) (x y : AV) (k : Bool -> Prop) : Prop :=
 kO x fun n c => kO y fun n' c' => match P.eqGuardType P.depth t with
  | true => False
  | false => match oP P 12 t with
   | false => False
   | true => match n == P.cellsOf t with
    | false => False
    | true => match n' == P.cellsOf t with
     | false => False
     | true => match sU P 12 t with
      | some ls => geq ls c c' k
      | none => False
abbrev zR7 (P : Program) (t : TypeId) : Option (TypeId × TypeId) := match P.underlying t with | some (.map k e) => some (k, e) | _ => none
abbrev iP (P : Program) (t : TypeId) : Bool := match P.underlying t with | some .bool => true | some (.int _) => true | _ => false
abbrev zN1 (P : Program) (t : TypeId) : Bool := match P.underlying t with | some (.struct fs) => fs.toList.all fun f => iP P f.type | _ => false
abbrev ySp (k : LK) : Bool := match k with | .s => false | _ => true
abbrev zHn (P : Program) (t : TypeId) : Option (List (Nat × LK)) := match zN1 P t && oP P 12 t with
 | true => (match sU P 12 t with
  | some ls => (match (ls.map Prod.fst == List.range (P.cellsOf t)) && ls.all fun p => ySp p.2 with | true => some ls | false => none)
  | none => none)
 | false => none
def jC (ls : List (Nat × LK)) (kn : Nat) (key c : Nat -> AV) : Nat -> Nat -> (Option Nat -> Prop) -> Prop
 | 0, _, k => k none
 | n + 1, i, k => match c (2 * i) with
  | .agg n' d => kif (n' == kn) (geq ls key d fun b => kif b (k (some i)) (jC ls kn key c n (i + 1) k)) False
  | _ => False
def kU (ls : List (Nat × LK)) (kn : Nat) (v : AV) (key : Nat -> AV) (n : Nat) (z : Nat -> AV) (m : Mem) (k : (Nat -> AV) -> Bool -> Prop) : Prop := match v with
 | .mp b => kobj m b fun y => jC ls kn key y.c y.t 0 fun o => match o with
  | some i => (match y.c (2 * i + 1) with | .agg n' d => kif (n' == n) (k d true) False | _ => False)
  | none => k z false
 | _ => False
def aQ (ls : List (Nat × LK)) (kn : Nat) (v : AV) (key : Nat -> AV) (n : Nat) (d : Nat -> AV) (m : Mem) (k : Mem -> Prop) : Prop := match v with
 | .mp b => kobj m b fun y => jC ls kn key y.c y.t 0 fun o => match o with
  | some i => k (m.set b { y with c := upd (upd y.c (2 * i) (.agg kn key)) (2 * i + 1) (.agg n d) })
  | none => k (m.set b { y with c := upd (upd y.c (2 * y.t) (.agg kn key)) (2 * y.t + 1) (.agg n d), t := y.t + 1 })
 | _ => False
def dI (ls : List (Nat × LK)) (kn : Nat) (v : AV) (key : Nat -> AV) (m : Mem) (k : Mem -> Prop) : Prop := match v with
 | .mp b => kobj m b fun y => jC ls kn key y.c y.t 0 fun o => match o with
  | some i => k (m.set b { y with c := fun j => if j < 2 * i then y.c j else y.c (j + 2), t := y.t - 1 })
  | none => k m
 | _ => False
def fH (v : AV) (m : Mem) (k : Mem -> Prop) : Prop := match v with
 | .mp b => kobj m b fun y => k (m.set b { y with t := 0 })
 | _ => False
def zCd (m : Mem) (k : Nat -> Mem -> Prop) : Prop := zQ m ⟨0, fun _ => .junk, 0, false⟩ fun b m' => k b m'
def oK (zs : List AV) (x : AV) (m : Mem) (k : Mem -> Prop) : Prop := match x with
 | .flat (.slice _ l c) => kite (l = 0 /\ c = 0) (k m) False
 | .sl b o n _ => kite (n = 0) (k m) (kobj m b fun y => match y.ro with
  | true => False
  | false => kite (o + n * zs.length <= y.n) (k (m.set b { y with c := zC y.c o (n * zs.length) (lK zs) })) False)
 | _ => False
abbrev bY (P : Program) (args : List AV) (ts : List TypeId) (m : Mem) (k : KV) : Prop := match args, ts with
 | [x], [t] => match P.underlying t with
  | some (.map _ _) => fH x m fun m' => k .junk m'
  | some (.slice e) => (match lQ P e with
   | some zs => kT zs.length (oK zs x m fun m' => k .junk m')
   | none => False)
  | _ => False
 | _, _ => False
abbrev zBf (P : Program) (args : List AV) (ts : List TypeId) (m : Mem) (k : KV) : Prop := match args, ts with
 | [x, key], t :: _ => match zR7 P t with
  | some (kt, _) => (match zHn P kt with
   | some ls => kO key fun kn d => kif (kn == P.cellsOf kt) (dI ls kn x d m fun m' => k .junk m') False
   | none => False)
  | none => False
 | _, _ => False
abbrev yA6 (P : Program) (t : TypeId) : Option (List AV) := match P.info? t with
 | some i => match i.zero with
  | some (.agg cs) => match cs.toList.all Value.oneCell with
   | true => some (cs.toList.map AV.flat)
   | false => none
  | _ => none
 | none => none
abbrev tD (P : Program) (t : TypeId) (x key : AV) (ok : Bool) (m : Mem) (k : AV -> Prop) : Prop := match zR7 P t with
 | some (kt, et) => (match zHn P kt with
  | some ls => (match yA6 P et with
   | some zs => kO key fun kn d => kif (kn == P.cellsOf kt) (kU ls kn x d zs.length (zH zs) m fun c b => k (match ok with
    | true => .tup [.agg zs.length c, .flat (.bool b)]
    | false => .agg zs.length c)) False
   | none => False)
  | none => False)
 | none => False
abbrev pT (P : Program) (t : TypeId) (x key v : AV) (m : Mem) (k : KV) : Prop := match zR7 P t with
 | some (kt, _) => (match zHn P kt with
  | some ls => kO key fun kn d => kif (kn == P.cellsOf kt) (kO v fun n c => aQ ls kn x d n c m fun m' => k .junk m') False
  | none => False)
 | none => False
def slM (x : AV) (lo hi mx : Option Int) (k : Prop) : Prop := match x, lo, hi, mx with
 | .sl _ _ _ cap, some l, some h, some m => kif (decide (0 <= l)) (kif (decide (l <= h)) (kif (decide (h <= m)) (kif (decide (m <= cap.low)) k False) False) False) False
 | _, _, _, _ => False
abbrev qQ (P : Program) (σ : Nat -> AV) (t : TypeId) (x : AV) (low high max : Option Operand) (k : AV -> Prop) : Prop := match P.underlying t with
 | some (.slice e) => kT (P.cellsOf e) (uI σ low fun lo => uI σ high fun hi => uI σ max fun mx => slM x lo hi mx (k .junk))
 | _ => False
inductive Cls | P | L | M
 deriving DecidableEq
abbrev yAp (P : Program) (s d : TypeId) : Bool := match P.underlying d with
 | some .string => (match P.underlying s with | some (.slice _) => true | _ => false)
 | _ => false
abbrev nT (P : Program) : Op -> Cls
 | .convert s d _ => match yAp P s d with | true => .L | false => .P
 | .move _ | .assign _ | .pick .. | .nilCheck _ | .binOp .. | .unOp .. | .fieldAddr .. | .field .. | .indexAddr .. | .index .. | .extract .. | .build .. | .slice .. | .makeFunc .. => .P
 | .call { callee := .builtin .len, .. } | .call { callee := .builtin .min, .. } | .call { callee := .builtin .max, .. } => .P
 | .load .. => .L
 | .lookup .. => .L
 | _ => .M
abbrev xL (P : Program) (σ : Nat -> AV) (o : Oper) (k : AV -> Prop) : Prop :=
 match o.op with
 | .move x | .assign x => k (zS σ x)
 | .pick c a b => tP (zS σ c) fun t => kif t (k (zS σ a)) (k (zS σ b))
 | .nilCheck x => yD (zS σ x) fun b o => k (.ptr b o)
 | .binOp op t x y _ => match eP P t y with
  | some true => match op with
   | .eql => pZ (zS σ x) fun b => k (.flat (.bool b))
   | .neq => pZ (zS σ x) fun b => k (.flat (.bool (!b)))
   | _ => False
  | some false => match op with
   | .eql => zG1 (zS σ x) fun b => k (.flat (.bool b))
   | .neq => zG1 (zS σ x) fun b => k (.flat (.bool (!b)))
   | _ => False
  | none => match op with
   | .quo => qD (zS σ x) fun kx a => qD (zS σ y) fun ky b => kite (kx = ky) (kif (decide (b = 0)) False (k (.flat (.int kx (kx.wrap (a.tdiv b)))))) False
   | .rem => qD (zS σ x) fun kx a => qD (zS σ y) fun ky b => kite (kx = ky) (kif (decide (b = 0)) False (k (.flat (.int kx (a.tmod b))))) False
   | .shl => qD (zS σ x) fun kx a => qD (zS σ y) fun ky b => kif (decide (b < 0)) False (k (.flat (.int kx (kx.wrap (a * 2 ^ min b.toNat kx.bits)))))
   | .shr => qD (zS σ x) fun kx a => qD (zS σ y) fun ky b => kif (decide (b < 0)) False (k (.flat (.int kx (a.fdiv (2 ^ min b.toNat kx.bits)))))
   | .eql => (match yS P t with
    | true => aeq P t (zS σ x) (zS σ y) fun b => k (.flat (.bool b))
    | false => qC P σ o k)
   | .neq => (match yS P t with
    | true => aeq P t (zS σ x) (zS σ y) fun b => k (.flat (.bool (!b)))
    | false => qC P σ o k)
   | _ => qC P σ o k
 | .unOp .. | .convert .. => qC P σ o k
 | .fieldAddr t x f => lC P t (zS σ x) f k
 | .field t x f => zKc P t (zS σ x) f k
 | .indexAddr t x i => mU P t (zS σ x) (zS σ i) k
 | .index t x i => zJj P t (zS σ x) (zS σ i) k
 | .slice t x low high none => lD P σ t (zS σ x) low high k
 | .slice t x low high (some mx) => qQ P σ t (zS σ x) low high (some mx) k
 | .extract x i => match zS σ x with
  | .tup vs => match vs[i]? with
   | some v => k v
   | none => False
  | _ => False
 | .build t parts => zDx P t (parts.toList.map fun p => (p.1, zS σ p.2)) k
 | .makeFunc f first cap => match f, first.toList with
  | .func f, [] => zG8 (cap.toList.map (zS σ)) (k (.clo f (cap.toList.map (zS σ))))
  | _, _ => False
 | .call { callee := .builtin .len, args, argTypes } => match argTypes.toList, args.toList with
  | [t], [x] => match P.underlying t with
   | some (.slice _) => xJ (zS σ x) fun n => k (.flat (.int .i64 n))
   | some .string => kS (zS σ x) fun s => k (.flat (.int .i64 s.size))
   | _ => False
  | _, _ => False
 | .call { callee := .builtin .min, .. } | .call { callee := .builtin .max, .. } => qC P σ o k
 | _ => False
def mP (x : AV) (m : Mem) (k : ByteArray -> Prop) : Prop := match x with
 | .sl b o n _ => kobj m b fun y => kite (o + n <= y.n) (∃ z : ByteArray, z.size = n /\ (∀ i, i < n -> y.c (o + i) = .flat (.int .u8 (z.data.getD i 0).toNat)) /\ k z) False
 | .e0 => k .empty
 | .flat (.slice _ n c) => kite (n = 0 /\ c = 0) (k .empty) False
 | _ => False
def frS (F : Nat -> Prop) (x : AV) (A : Prop) : Prop := match x with
 | .sl b _ _ _ => F b /\ A
 | _ => A
abbrev zRf (P : Program) (t : TypeId) : Bool := match P.underlying t with
 | some (.slice e) => (match P.underlying e with | some (.int .u8) => true | _ => false)
 | _ => false
abbrev uT (P : Program) (fr : Option (Nat -> Prop)) (σ : Nat -> AV) (m : Mem) (o : Oper) (k : AV -> Prop) : Prop :=
 match o.op with
 | .load t a => (match fr with
  | none => ald P t (zS σ a) m k
  | some F => yD (zS σ a) fun b _ => F b /\ ald P t (zS σ a) m k)
 | .convert s d x => (match zRf P s with
  | true => (match fr with
   | none => mP (zS σ x) m fun z => k (.flat (.string z))
   | some F => frS F (zS σ x) (mP (zS σ x) m fun z => k (.flat (.string z))))
  | false => False)
 | .lookup t x i ok => (match fr with
  | none => tD P t (zS σ x) (zS σ i) ok m k
  | some _ => False)
 | _ => False
abbrev wK (P : Program) (Γ : zZ) (fr : Option (Nat -> Prop)) (σ : Nat -> AV) (m : Mem) (o : Oper) (k : KV) : Prop :=
 match o.op with
 | .alloc e => match lQ P e with
  | some zs => zQ m ⟨zs.length, zH zs, e, false⟩ fun b m' => k (.ptr b 0) m'
  | none => False
 | .box e x => match zKp P e (zS σ x) with
  | some (n, c) => kone P e (zS σ x) (zQ m ⟨n, c, e, false⟩ fun b m' => k (.ptr b 0) m')
  | none => False
 | .makeChan t s => match zTi P t with
  | some e => qD (zS σ s) fun _ n => kif (decide (0 <= n)) (kite (n <= 1000000 /\ uD P e * n.toNat <= 1000000) (k .ch m) False) False
  | none => False
 | .buildSlice t len parts => jD P t len (parts.toList.map fun p => (p.1, zS σ p.2)) m k
 | .makeSlice t l c => eE P t (zS σ l) (zS σ c) m k
 | .makeMap t none => (match zR7 P t with | some _ => zCd m fun b m' => k (.mp b) m' | none => False)
 | .mapUpdate t x i v => pT P t (zS σ x) (zS σ i) (zS σ v) m k
 | .store t a v => (match fr with
  | none => ast P t (zS σ a) (zS σ v) m fun m' => k .junk m'
  | some F => ast P t (zS σ a) (zS σ v) m fun m' => zV F m m' /\ k .junk m')
 | .call { callee := .builtin .append, args, argTypes } => (match fr with
  | none => qN P (args.toList.map (zS σ)) argTypes.toList m k
  | some F => qN P (args.toList.map (zS σ)) argTypes.toList m fun v m' => zV F m m' /\ k v m')
 | .call { callee := .builtin .copy, args, argTypes } => zWr P (args.toList.map (zS σ)) argTypes.toList m k
 | .call { callee := .builtin .clear, args, argTypes } => bY P (args.toList.map (zS σ)) argTypes.toList m k
 | .call { callee := .builtin .delete, args, argTypes } => zBf P (args.toList.map (zS σ)) argTypes.toList m k
 | .call { callee := .value (.func f), args, .. } => (match fr with
  | none => Γ f (args.toList.map (zS σ)) m k
  | some F => Γ f (args.toList.map (zS σ)) m fun v m' => zV F m m' /\ k v m')
 | .call { callee := .value (.tmp t), args, .. } => mB (σ t) fun f xs => (match fr with
  | none => Γ f (args.toList.map (zS σ) ++ xs) m fun v m' => bL P o.type v fun v' => k v' m'
  | some F => Γ f (args.toList.map (zS σ) ++ xs) m fun v m' => zV F m m' /\ bL P o.type v fun v' => k v' m')
 | _ => False
def clo (all : Array Oper) (i : Nat) : Nat := (Region.before all).getD i 0
def yBz : Op -> Bool
 | .store .. => true
 | _ => false
def pC (P : Program) (all : Array Oper) (o : Oper) : Bool := yBz o.op && (List.range all.size).all fun j => match all[j]? with
 | none => true
 | some y => match nT P y.op with
  | .L => o.after.any fun e => Region.binds .any e && (e.on == j || (decide (j < e.on) && (clo all e.on).testBit j))
  | _ => true
def nR (P : Program) (all : Array Oper) (fr : Option (Nat -> Prop)) (o : Oper) : Option (Nat -> Prop) := match fr with
 | none => none
 | some F => match pC P all o with
  | true => none
  | false => some F
abbrev cD (P : Program) (Γ : zZ) (fr : Option (Nat -> Prop)) (σ : Nat -> AV) (m : Mem) (o : Oper) (k : KV) : Prop :=
 match nT P o.op with
 | .P => xL P σ o fun v => k v m
 | .L => uT P fr σ m o fun v => k v m
 | .M => wK P Γ fr σ m o k
abbrev yG (σ : Nat -> AV) (d : Option Tmp) (v : AV) : Nat -> AV := match d with | some d => upd σ d v | none => σ
def sZ (P : Program) (Γ : zZ) (fr : Option (Nat -> Prop)) (all : Array Oper) : List Oper -> (Nat -> AV) -> Mem -> ((Nat -> AV) -> Mem -> Prop) -> Prop
 | [], σ, m, k => yT (k σ m)
 | o :: rest, σ, m, k => match o.guard with
  | none => cD P Γ (nR P all fr o) σ m o fun v m' => sZ P Γ fr all rest (yG σ o.dst v) m' k
  | some (j, want) => match (all[j]?).bind (·.dst) with
   | none => False
   | some d => match σ d with
    | .flat (.bool t) => (match want with
     | true => kif t (cD P Γ (nR P all fr o) (upd σ d (.flat (.bool true))) m o fun v m' => sZ P Γ fr all rest (yG (upd σ d (.flat (.bool true))) o.dst v) m' k) (sZ P Γ fr all rest (yG (upd σ d (.flat (.bool false))) o.dst (.flat undef)) m k)
     | false => kif t (sZ P Γ fr all rest (yG (upd σ d (.flat (.bool true))) o.dst (.flat undef)) m k) (cD P Γ (nR P all fr o) (upd σ d (.flat (.bool false))) m o fun v m' => sZ P Γ fr all rest (yG (upd σ d (.flat (.bool false))) o.dst v) m' k))
    | .flat (.tuple _) => sZ P Γ fr all rest (yG σ o.dst (.flat undef)) m k
    | _ => False
inductive Ex
 | normal
 | exit (id : Nat)
 | ret
abbrev KX := Ex -> (Nat -> AV) -> Mem -> Prop
structure LEnv where
 loop : Code -> (Nat -> AV) -> Mem -> KX -> Prop
 frz : Nat -> Bool
 cut : Code -> Bool
 piece : Code -> (Nat -> AV) -> Mem -> KX -> Prop
def pJ : Code -> Option Nat
 | .region id _ _ => some id
 | .seq a b => match pJ a with | some i => some i | none => pJ b
 | .cond _ a b => match pJ a with | some i => some i | none => pJ b
 | .block _ a | .loop a | .scope a => pJ a
 | _ => none
def wpA (P : Program) (Γ : zZ) (Λ : LEnv) : Code -> (Nat -> AV) -> Mem -> KX -> Prop
 | .skip, σ, m, k => yT (k .normal σ m)
 | .label _, σ, m, k => k .normal σ m
 | .region id ops _, σ, m, k => (match Λ.frz id with
  | false => sZ P Γ none ops ops.toList σ m fun σ' m' => k .normal σ' m'
  | true => ∃ F : Nat -> Prop, sZ P Γ (some F) ops ops.toList σ m fun σ' m' => k .normal σ' m')
 | .seq a b, σ, m, k => wpA P Γ Λ a σ m fun e σ' m' => match e with
  | .normal => (match Λ.cut b with | true => Λ.piece b σ' m' k | false => wpA P Γ Λ b σ' m' k)
  | .exit id => k (.exit id) σ' m'
  | .ret => k .ret σ' m'
 | .cond c a b, σ, m, k => tP (zS σ c) fun t => kif t (wpA P Γ Λ a σ m k) (wpA P Γ Λ b σ m k)
 | .block id a, σ, m, k => wpA P Γ Λ a σ m fun e σ' m' => match e with
  | .normal => k .normal σ' m'
  | .exit j => match j == id with | true => k .normal σ' m' | false => k (.exit j) σ' m'
  | .ret => k .ret σ' m'
 | .loop a, σ, m, k => Λ.loop a σ m k
 | .scope a, σ, m, k => wpA P Γ Λ a σ m k
 | .exit id, σ, m, k => k (.exit id) σ m
 | .ret, σ, m, k => k .ret σ m
 | _, _, _, _ => False
def only : List Nat -> List AV -> Nat -> AV
 | t :: ts, v :: vs => upd (only ts vs) t v
 | _, _ => fun _ => .junk
def rounds (P : Program) (Γ : zZ) (Λ : LEnv) (live : List Nat) (lx : Ex -> List Nat) (body : Code) : Nat -> List AV -> Mem -> KX -> Prop
 | 0, _, _, _ => False
 | n + 1, vs, m, k => wpA P Γ Λ body (only live vs) m fun e σ' m' => match e with
  | .normal => rounds P Γ Λ live lx body n (live.map σ') m' k
  | .exit id => k (.exit id) (only (lx (.exit id)) ((lx (.exit id)).map σ')) m'
  | .ret => k .ret (only (lx .ret) ((lx .ret).map σ')) m'
def yR6 (P : Program) (Γ : zZ) (Λ : LEnv) (live : List Nat) (lx : Ex -> List Nat) (body : Code) (vs : List AV) (m : Mem) (k : KX) : Prop :=
 wpA P Γ Λ body (only live vs) m fun e σ' m' => match e with
  | .normal => k .normal (only (lx .normal) ((lx .normal).map σ')) m'
  | .exit id => k (.exit id) (only (lx (.exit id)) ((lx (.exit id)).map σ')) m'
  | .ret => k .ret (only (lx .ret) ((lx .ret).map σ')) m'
abbrev zSt (P : Program) : List ResultVar -> (Nat -> AV) -> Mem -> (List AV -> Prop) -> Prop
 | [], _, _, k => k []
 | .tmp t :: rs, σ, m, k => zSt P rs σ m fun vs => k (σ t :: vs)
 | .cell a t :: rs, σ, m, k => ald P t (σ a) m fun v => zSt P rs σ m fun vs => k (v :: vs)
def knt (v : AV) (A : Prop) : Prop := match v with
 | .tup _ => False
 | .clo _ _ => False
 | _ => A
def yK2 : List AV -> Prop -> Prop
 | [], A => A
 | v :: vs, A => knt v (yK2 vs A)
abbrev zF8 (P : Program) (rs : List ResultVar) (σ : Nat -> AV) (m : Mem) (k : AV -> Prop) : Prop :=
 match rs with
 | [.tmp t] => k (σ t)
 | [.cell a t] => ald P t (σ a) m k
 | rs => zSt P rs σ m fun vs => yK2 vs (k (.tup vs))
def AV.isPlain : AV -> Bool
 | .flat _ => true
 | .junk => true
 | .tup vs => vs.all AV.isFlat
 | _ => false
def AV.inDom2 (m : Mem) (v : AV) : Prop := match v with
 | .agg n c => xZ n m c
 | .tup vs => vs.foldr (fun v A => (match v with | .agg n c => xZ n m c /\ A | .flat _ => A | v => v.inDom m /\ A)) True
 | v => v.inDom m
abbrev lP (dr : Bool) (m : Mem) (k : KV) (v : AV) (m' : Mem) : Prop := match dr with
 | false => k v m'
 | true => match v.isPlain with
  | true => zA m m' /\ k v m
  | false => zA m m' /\ v.inDom2 m /\ k v m
abbrev eU (P : Program) (Γ : zZ) (Λ : LEnv) (fn : Func) (dr : Bool) (args : List AV) (m : Mem) (k : KV) : Prop :=
 match fn.body with
 | some c => wpA P Γ Λ c (only (List.range args.length) args) m fun e σ' m' => match e with
  | .exit _ => False
  | .normal => zF8 P fn.results.toList σ' m' fun v => lP dr m k v m'
  | .ret => zF8 P fn.results.toList σ' m' fun v => lP dr m k v m'
 | none => False
end Go.Proofs.YtkiggdgphbkneaaGreat.Am
