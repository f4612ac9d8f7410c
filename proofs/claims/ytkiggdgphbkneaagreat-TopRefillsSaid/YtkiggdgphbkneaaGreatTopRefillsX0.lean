/- An abstract machine over memory with numbered blocks: what a piece of the program asks of what follows it, as a predicate over values and abstract memory. No condition: definitions. -/
import Derived.Below
import Derived.Calls
import Derived.ChangeArms
import Derived.ChangeKeysEq
import Derived.ChangeShapes
import Derived.Deep.Slices
import Derived.KernelRfl
import Derived.Laws.Append
import Derived.Laws.BytesString
import Derived.Laws.Cells
import Derived.Laws.Entries
import Derived.Laws.IdiomCopy
import Derived.Laws.Sem
import Derived.Laws.StructEq
import Derived.LoopN
import Derived.OpenShut
import Derived.Orders
import Derived.Scope
import Derived.Test.YtkiggdgphbkneaaGreatProg
import Derived.Wp
namespace Go.Proofs.YtkiggdgphbkneaaGreat.Am
set_option linter.unusedVariables false
inductive Cap
 | ex (c : Nat)
 | ge (esz k : Nat)
inductive AV
 | flat (v : Value)
 | ptr (b o : Nat)
 | sl (b o len : Nat) (cap : Cap)
 /-- a slice of length 0, its place and room unknown, not nil -/
 | e0
 /-- a map: a block without cells, its entries (the number of them in the place of the type) a key and a value in turn -/
 | mp (b : Nat)
 | agg (n : Nat) (c : Nat → AV)
 | tup (vs : List AV)
 /-- a channel: nothing is known of it -/
 | ch
 /-- a function with what it holds on to -/
 | clo (f : FuncId) (vs : List AV)
 | junk
structure Blk where
 n : Nat
 c : Nat → AV
 t : TypeId
 ro : Bool
structure Mem where
 obj : Nat → Option Blk
 fin : ∃ N, ∀ b, N ≤ b → obj b = none
def upd {α : Type} (s : Nat → α) (i : Nat) (v : α) : Nat → α := fun j => if j = i then v else s j
theorem upd_fin (f : Nat → Option Blk) (h : ∃ N, ∀ b, N ≤ b → f b = none) (i : Nat) (v : Option Blk) : ∃ N, ∀ b, N ≤ b → upd f i v b = none := by
 obtain ⟨N, h⟩ := h
 refine ⟨max N (i + 1), fun b hb => ?_⟩
 unfold upd
 rw [if_neg (by omega)]
 exact h b (by omega)
def lget : List AV → Nat → AV
 | [], _ => .junk
 | x :: _, 0 => x
 | _ :: l, i + 1 => lget l i
def sub (c : Nat → AV) (o n : Nat) : Nat → AV := fun i => if i < n then c (o + i) else .junk
def splice (c : Nat → AV) (o n : Nat) (d : Nat → AV) : Nat → AV := fun j => if o ≤ j ∧ j < o + n then d (j - o) else c j
def Mem.set (m : Mem) (b : Nat) (x : Blk) : Mem := ⟨upd m.obj b (some x), upd_fin m.obj m.fin b (some x)⟩
def newK (m : Mem) (x : Blk) (k : Nat → Mem → Prop) : Prop := ∀ b, m.obj b = none → k b (m.set b x)
def Keeps (m m' : Mem) : Prop := ∀ b, m.obj b ≠ none → m'.obj b = m.obj b
def KeepsIn (F : Nat → Prop) (m m' : Mem) : Prop := ∀ b, F b → m.obj b ≠ none → m'.obj b = m.obj b
def AV.inDom (m : Mem) (v : AV) : Prop := match v with
 | .ptr b _ => m.obj b ≠ none
 | .sl b _ _ _ => m.obj b ≠ none
 | .mp b => m.obj b ≠ none
 | .clo _ _ => False
 | _ => True
def InDomG (n : Nat) (m : Mem) (c : Nat → AV) : Prop := ∀ i, i < n → (c i).inDom m
abbrev ofVal : Value → AV
 | .agg cs => match cs.toList.all Value.oneCell with
  | true => .agg cs.size (lget (cs.toList.map AV.flat))
  | false => .junk
 | v => .flat v
abbrev aval (σ : Nat → AV) : Operand → AV
 | .tmp t => σ t
 | .const v => ofVal v
 | .global _ => .junk
 | .func f => .flat (.func (.func f) #[] #[])
def AV.isFlat : AV → Bool
 | .flat _ => true
 | _ => false
def AV.val : AV → Value
 | .flat v => v
 | _ => .tuple #[]
def AV.one : AV → Bool
 | .flat v => v.oneCell
 | .ptr _ _ | .sl _ _ _ _ | .e0 | .mp _ | .ch => true
 | _ => false
def pv {α : Type} (P : Program) : Sem α → Option α
 | .pure a => some a
 | .program k => pv P (k P)
 | _ => none
abbrev KV := AV → Mem → Prop
def bp0 : Unit := ()
def bp1 : Unit := bp0
def bp2 : Unit := bp1
def bp3 : Unit := bp2
def bp4 : Unit := bp3
def bp5 : Unit := bp4
def bp6 : Unit := bp5
def bp7 : Unit := bp6
def bp8 : Unit := bp7
def bp9 : Unit := bp8
def bp10 : Unit := bp9
def bp11 : Unit := bp10
def bp12 : Unit := bp11
def bp13 : Unit := bp12
def bp14 : Unit := bp13
def bp15 : Unit := bp14
def bp16 : Unit := bp15
def bp17 : Unit := bp16
def bp18 : Unit := bp17
def bp19 : Unit := bp18
def bp20 : Unit := bp19
def bp21 : Unit := bp20
def bp22 : Unit := bp21
def bp23 : Unit := bp22
def bp24 : Unit := bp23
def bp25 : Unit := bp24
def bp26 : Unit := bp25
def bp27 : Unit := bp26
def bp28 : Unit := bp27
def bp29 : Unit := bp28
def bp30 : Unit := bp29
def bp31 : Unit := bp30
def bp32 : Unit := bp31
def bp33 : Unit := bp32
def bp34 : Unit := bp33
def bp35 : Unit := bp34
def bp36 : Unit := bp35
def bp37 : Unit := bp36
def bp38 : Unit := bp37
def bp39 : Unit := bp38
def bp40 : Unit := bp39
def bp41 : Unit := bp40
def bp42 : Unit := bp41
def bp43 : Unit := bp42
def bp44 : Unit := bp43
def bp45 : Unit := bp44
def bp46 : Unit := bp45
def bp47 : Unit := bp46
def bp48 : Unit := bp47
def bp49 : Unit := bp48
def bp50 : Unit := bp49
def bp51 : Unit := bp50
def bp52 : Unit := bp51
def bp53 : Unit := bp52
def bp54 : Unit := bp53
def bp55 : Unit := bp54
def bp56 : Unit := bp55
def bp57 : Unit := bp56
def bp58 : Unit := bp57
def bp59 : Unit := bp58
def bp60 : Unit := bp59
def bp61 : Unit := bp60
def bp62 : Unit := bp61
def bp63 : Unit := bp62
def bp64 : Unit := bp63
def bp65 : Unit := bp64
def bp66 : Unit := bp65
def bp67 : Unit := bp66
def bp68 : Unit := bp67
def bp69 : Unit := bp68
def bp70 : Unit := bp69
def bp71 : Unit := bp70
def bp72 : Unit := bp71
def bp73 : Unit := bp72
def bp74 : Unit := bp73
def bp75 : Unit := bp74
def bp76 : Unit := bp75
def bp77 : Unit := bp76
def bp78 : Unit := bp77
def bp79 : Unit := bp78
def bp80 : Unit := bp79
def bp81 : Unit := bp80
def bp82 : Unit := bp81
def bp83 : Unit := bp82
def bp84 : Unit := bp83
def bp85 : Unit := bp84
def bp86 : Unit := bp85
def bp87 : Unit := bp86
def bp88 : Unit := bp87
def bp89 : Unit := bp88
def bp90 : Unit := bp89
def bp91 : Unit := bp90
def bp92 : Unit := bp91
def bp93 : Unit := bp92
def bp94 : Unit := bp93
def bp95 : Unit := bp94
def bp96 : Unit := bp95
def bp97 : Unit := bp96
def bp98 : Unit := bp97
def bp99 : Unit := bp98
def bp100 : Unit := bp99
def bp101 : Unit := bp100
def bp102 : Unit := bp101
def bp103 : Unit := bp102
def bp104 : Unit := bp103
def bp105 : Unit := bp104
def bp106 : Unit := bp105
def bp107 : Unit := bp106
def bp108 : Unit := bp107
def bp109 : Unit := bp108
def bp110 : Unit := bp109
def bp111 : Unit := bp110
def bp112 : Unit := bp111
def bp113 : Unit := bp112
def bp114 : Unit := bp113
def bp115 : Unit := bp114
def bp116 : Unit := bp115
def bp117 : Unit := bp116
def bp118 : Unit := bp117
def bp119 : Unit := bp118
def bp120 : Unit := bp119
def bp121 : Unit := bp120
def bp122 : Unit := bp121
def bp123 : Unit := bp122
def bp124 : Unit := bp123
def bp125 : Unit := bp124
def bp126 : Unit := bp125
def bp127 : Unit := bp126
def bp128 : Unit := bp127
def bp129 : Unit := bp128
def bp130 : Unit := bp129
def bp131 : Unit := bp130
def bp132 : Unit := bp131
def bp133 : Unit := bp132
def bp134 : Unit := bp133
def bp135 : Unit := bp134
def bp136 : Unit := bp135
def bp137 : Unit := bp136
def bp138 : Unit := bp137
def bp139 : Unit := bp138
def bp140 : Unit := bp139
def bp141 : Unit := bp140
def bp142 : Unit := bp141
def bp143 : Unit := bp142
def bp144 : Unit := bp143
def bp145 : Unit := bp144
def bp146 : Unit := bp145
def bp147 : Unit := bp146
def bp148 : Unit := bp147
def bp149 : Unit := bp148
def bp150 : Unit := bp149
def bp151 : Unit := bp150
def bp152 : Unit := bp151
def bp153 : Unit := bp152
def bp154 : Unit := bp153
def bp155 : Unit := bp154
def bp156 : Unit := bp155
def bp157 : Unit := bp156
def bp158 : Unit := bp157
def bp159 : Unit := bp158
def bp160 : Unit := bp159
def bp161 : Unit := bp160
def bp162 : Unit := bp161
def bp163 : Unit := bp162
def bp164 : Unit := bp163
def bp165 : Unit := bp164
def bp166 : Unit := bp165
def bp167 : Unit := bp166
def bp168 : Unit := bp167
def bp169 : Unit := bp168
def bp170 : Unit := bp169
def bp171 : Unit := bp170
def bp172 : Unit := bp171
def bp173 : Unit := bp172
def bp174 : Unit := bp173
def bp175 : Unit := bp174
def bp176 : Unit := bp175
def bp177 : Unit := bp176
def bp178 : Unit := bp177
def bp179 : Unit := bp178
def bp180 : Unit := bp179
def bp181 : Unit := bp180
def bp182 : Unit := bp181
def bp183 : Unit := bp182
def bp184 : Unit := bp183
def bp185 : Unit := bp184
def bp186 : Unit := bp185
def bp187 : Unit := bp186
def bp188 : Unit := bp187
def bp189 : Unit := bp188
def bp190 : Unit := bp189
def bp191 : Unit := bp190
def bp192 : Unit := bp191
def bp193 : Unit := bp192
def bp194 : Unit := bp193
def bp195 : Unit := bp194
def bp196 : Unit := bp195
def bp197 : Unit := bp196
def bp198 : Unit := bp197
def bp199 : Unit := bp198
def bp200 : Unit := bp199
def bp201 : Unit := bp200
def bp202 : Unit := bp201
def bp203 : Unit := bp202
def bp204 : Unit := bp203
def bp205 : Unit := bp204
def bp206 : Unit := bp205
def bp207 : Unit := bp206
def bp208 : Unit := bp207
def bp209 : Unit := bp208
def bp210 : Unit := bp209
def bp211 : Unit := bp210
def bp212 : Unit := bp211
def bp213 : Unit := bp212
def bp214 : Unit := bp213
def bp215 : Unit := bp214
def bp216 : Unit := bp215
def bp217 : Unit := bp216
def bp218 : Unit := bp217
def bp219 : Unit := bp218
def bp220 : Unit := bp219
def bp221 : Unit := bp220
def bp222 : Unit := bp221
def bp223 : Unit := bp222
def bp224 : Unit := bp223
def bp225 : Unit := bp224
def bp226 : Unit := bp225
def bp227 : Unit := bp226
def bp228 : Unit := bp227
def bp229 : Unit := bp228
def bp230 : Unit := bp229
def bp231 : Unit := bp230
def bp232 : Unit := bp231
def bp233 : Unit := bp232
def bp234 : Unit := bp233
def bp235 : Unit := bp234
def bp236 : Unit := bp235
def bp237 : Unit := bp236
def bp238 : Unit := bp237
def bp239 : Unit := bp238
def bp240 : Unit := bp239
def bump {α : Sort _} (x : α) : α := (fun _ => x) bp240
abbrev kif (b : Bool) (A B : Prop) : Prop := match b with | true => A | false => B
abbrev kite (c : Prop) [Decidable c] (A B : Prop) : Prop := match decide c with | true => A | false => B
theorem kite_eq (c : Prop) [Decidable c] (A B : Prop) : kite c A B = if c then A else B := by
 unfold kite
 by_cases h : c
 ·simp [h]
 ·simp [h]
abbrev kbool (v : AV) (k : Bool → Prop) : Prop := match v with | .flat (.bool b) => k b | _ => False
abbrev kint (v : AV) (k : IntKind → Int → Prop) : Prop := match v with | .flat (.int i n) => k i n | _ => False
abbrev kptr (v : AV) (k : Nat → Nat → Prop) : Prop := match v with | .ptr b o => k b o | _ => False
abbrev ksl (v : AV) (k : Nat → Nat → Nat → Cap → Prop) : Prop := match v with | .sl b o l c => k b o l c | _ => False
abbrev kagg (v : AV) (k : Nat → (Nat → AV) → Prop) : Prop := match v with | .agg n c => k n c | _ => False
abbrev knilP (v : AV) (k : Bool → Prop) : Prop := match v with
 | .ptr _ _ => k false
 | .flat (.pointer none) => k true
 | _ => False
abbrev knilS (v : AV) (k : Bool → Prop) : Prop := match v with
 | .sl _ _ _ _ => k false
 | .e0 => k false
 | .flat (.slice none _ _) => k true
 | .flat (.slice (some _) _ _) => k false
 | _ => False
abbrev klen (v : AV) (k : Int → Prop) : Prop := match v with
 | .sl _ _ n _ => k n
 | .e0 => k 0
 | .flat (.slice _ n _) => k n
 | _ => False
abbrev kI (kd : IntKind) (v : AV) (k : Int → Prop) : Prop := match v with | .flat (.int kd' n) => kite (kd' = kd) (k n) False | _ => False
abbrev kS (v : AV) (k : ByteArray → Prop) : Prop := match v with | .flat (.string s) => k s | _ => False
abbrev kA (v : AV) (k : AV → Prop) : Prop := match v with | .junk => False | .agg _ _ => False | .tup _ => False | .clo _ _ => False | v => k v
abbrev kcell (P : Program) (t : TypeId) (v : AV) (k : AV → Prop) : Prop :=
 match P.underlying t with
 | some (.int kd) => kI kd v fun n => k (.flat (.int kd n))
 | some .bool => kbool v fun b => k (.flat (.bool b))
 | some .string => kS v fun s => k (.flat (.string s))
 | some _ => kA v k
 | none => False
abbrev isAggB (P : Program) (t : TypeId) : Bool := match P.underlying t with | some (.struct _) | some (.array _ _) => true | _ => false
abbrev fieldOf (P : Program) (s : TypeId) (f : Nat) : Option Field := match P.underlying s with | some (.struct fs) => fs[f]? | _ => none
abbrev sliceOf (P : Program) (t : TypeId) : Option TypeId := match P.underlying t with | some (.slice e) => some e | _ => none
abbrev kobj (m : Mem) (b : Nat) (k : Blk → Prop) : Prop := match m.obj b with | some x => k x | none => False
abbrev kpart (P : Program) (t : TypeId) (n : Nat) (c : Nat → AV) (off : Nat) (k : AV → Prop) : Prop :=
 match isAggB P t with
 | true => kite (off + P.cellsOf t ≤ n) (k (.agg (P.cellsOf t) (sub c off (P.cellsOf t)))) False
 | false => kite (off < n) (kcell P t (c off) k) False
abbrev zeros (P : Program) (t : TypeId) : Option (List AV) := match P.info? t with
 | some i => match i.zero with
  | some z => match z.cells.toList.all Value.oneCell with
   | true => some (z.cells.toList.map AV.flat)
   | false => none
  | none => none
 | none => none
abbrev kpos (n : Nat) (A : Prop) : Prop := match n with | 0 => False | _ + 1 => A
def Cap.low : Cap → Nat
 | .ex c => c
 | .ge _ k => k
abbrev ald (P : Program) (t : TypeId) (v : AV) (m : Mem) (k : AV → Prop) : Prop := kptr v fun b o => kobj m b fun x => kpart P t x.n x.c o k
abbrev ast (P : Program) (t : TypeId) (a v : AV) (m : Mem) (k : Mem → Prop) : Prop :=
 kptr a fun b o => kobj m b fun x => match x.ro with
  | true => False
  | false => match isAggB P t with
   | true => kagg v fun n c => kif (n == P.cellsOf t) (kite (o + n ≤ x.n) (k (m.set b { x with c := splice x.c o n c })) False) False
   | false => match v.one with
    | true => match P.cellsOf t with
     | 1 => kite (o < x.n) (k (m.set b { x with c := upd x.c o v })) False
     | _ => False
    | false => False
abbrev cellsOf' (P : Program) (t : TypeId) (v : AV) : Option (Nat × (Nat → AV)) :=
 match isAggB P t, v with
 | true, .agg n c => if n = P.cellsOf t then some (n, c) else none
 | false, v => match v.one with
  | true => if P.cellsOf t = 1 then some (1, lget [v]) else none
  | false => none
 | _, _ => none
abbrev cellsV (P : Program) (t : TypeId) (v : AV) : Option (Nat × (Nat → AV)) :=
 match isAggB P t, v with
 | true, .agg n c => if n = P.cellsOf t then some (n, c) else none
 | false, v => if P.cellsOf t = 1 then some (1, lget [v]) else none
 | _, _ => none
def kones (place : Nat → Option (Nat × TypeId)) (P : Program) : List (Nat × AV) → Prop → Prop
 | [], A => A
 | (i, v) :: rest, A => match place i with
  | none => False
  | some (_, t) => match isAggB P t with
   | true => kones place P rest A
   | false => kif v.one (kones place P rest A) False
abbrev kone (P : Program) (t : TypeId) (v : AV) (A : Prop) : Prop := match isAggB P t with
 | true => A
 | false => kif v.one A False
def afill (place : Nat → Option (Nat × TypeId)) (P : Program) (n : Nat) : List (Nat × AV) → (Nat → AV) → Option (Nat → AV)
 | [], c => some c
 | (i, v) :: rest, c => match place i with
  | none => none
  | some (off, t) => match cellsV P t v with
   | none => none
   | some (k, d) => if off + k ≤ n then afill place P n rest (match k with | 1 => upd c off (d 0) | _ => splice c off k d) else none
abbrev abuild (P : Program) (t : TypeId) (parts : List (Nat × AV)) (k : AV → Prop) : Prop :=
 match zeros P t, P.underlying t with
 | some zs, some (.struct fs) => match fs.toList.all fun f => (P.info? f.type).isSome with
  | true => match afill (fun i => (fs[i]?).map fun f => (f.offset, f.type)) P zs.length parts (lget zs) with
   | some c => kones (fun i => (fs[i]?).map fun f => (f.offset, f.type)) P parts (k (.agg zs.length c))
   | none => False
  | false => False
 | some zs, some (.array _ e) => kpos (P.cellsOf e) (match afill (fun i => some (i * P.cellsOf e, e)) P zs.length parts (lget zs) with
  | some c => kones (fun i => some (i * P.cellsOf e, e)) P parts (k (.agg zs.length c))
  | none => False)
 | _, _ => False
def reps : Nat → List AV → List AV
 | 0, _ => []
 | n + 1, zs => zs ++ reps n zs
abbrev abuildSlice (P : Program) (t : TypeId) (len : Nat) (parts : List (Nat × AV)) (m : Mem) (k : KV) : Prop :=
 match sliceOf P t with
 | some e => match zeros P e with
  | some zs => kite (zs.length = P.cellsOf e ∧ len * zs.length ≤ 2 ^ 24 ∧ 0 < zs.length)
    (match afill (fun i => some (i * P.cellsOf e, e)) P (len * zs.length) parts (lget (reps len zs)) with
    | some c => kones (fun i => some (i * P.cellsOf e, e)) P parts (newK m ⟨len * zs.length, c, e, false⟩ fun b m' => k (.sl b 0 len (.ex len)) m')
    | none => False) False
  | none => False
 | none => False
def reprow (zs : List AV) : Nat → AV := fun i => lget zs (i % zs.length)
abbrev bytesOf (P : Program) (t : TypeId) : Nat := match P.info? t with | some i => i.bytes | none => 0
def mkS (zs : List AV) (bytes : Nat) (e : TypeId) (ln cn : Int) (m : Mem) (k : Nat → Mem → Prop) : Prop := kif (decide (0 ≤ ln)) (kif (decide (ln ≤ cn)) (kite (cn.toNat * (bytes + 1) ≤ 140737488355328)
 (newK m ⟨cn.toNat * zs.length, reprow zs, e, false⟩ fun b m' => k b m') False) False) False
abbrev amakeSlice (P : Program) (t : TypeId) (l c : AV) (m : Mem) (k : KV) : Prop :=
 match sliceOf P t with
 | some e => match zeros P e with
  | some zs => kint l fun _ ln => kint c fun _ cn => kite (zs.length = P.cellsOf e ∧ 0 < zs.length) (mkS zs (bytesOf P e) e ln cn m fun b m' => k (.sl b 0 ln.toNat (.ex cn.toNat)) m') False
  | none => False
 | none => False
abbrev ksrc (esz : Nat) (x : AV) (m : Mem) (k : Nat → (Nat → AV) → Prop) : Prop := match x with
 | .sl b o n _ => kobj m b fun y => kite (o + n * esz ≤ y.n) (k n (sub y.c o (n * esz))) False
 | .e0 => k 0 fun _ => .junk
 | .flat (.slice _ n c) => kite (n = 0 ∧ c = 0) (k 0 fun _ => .junk) False
 | .flat (.string s) => kite (esz = 1) (k s.size fun i => .flat (.int .u8 (s.data.getD i 0).toNat)) False
 | _ => False
def appIn (esz b o len : Nat) (cap : Cap) (n : Nat) (d : Nat → AV) (m : Mem) (k : KV) : Prop := kobj m b fun y => match y.ro with
 | true => False
 | false => k (.sl b o (len + n) cap) (m.set b { y with n := max y.n (o + (len + n) * esz), c := splice y.c (o + len * esz) (n * esz) d })
def appNew (esz : Nat) (e : TypeId) (old : Nat → AV) (len n : Nat) (d : Nat → AV) (m : Mem) (k : KV) : Prop :=
 newK m ⟨(len + n) * esz, splice old (len * esz) (n * esz) d, e, false⟩ fun b m' => k (.sl b 0 (len + n) (.ge esz (len + n))) m'
def appD (esz bytes : Nat) (e : TypeId) (s : AV) (n : Nat) (d : Nat → AV) (m : Mem) (k : KV) : Prop := match s with
  | .flat (.slice a l c) => kite (l = 0 ∧ c = 0) (kite (n = 0) (k (.flat (.slice a 0 0)) m) (kite (n * (bytes + 1) ≤ 140737488355328) (appNew esz e (fun _ => .junk) 0 n d m k) False)) False
  | .e0 => kite (n = 0) (k .e0 m) False
  | .sl b o len cap => kite (n = 0) (k (.sl b o len cap) m) (kobj m b fun y => kite (o + len * esz ≤ y.n ∧ (len + n) * (bytes + 1) ≤ 140737488355328) (match cap with
    | .ex c => kite (len + n ≤ c) (kite (o + (len + n) * esz ≤ y.n) (appIn esz b o len (.ex c) n d m k) False) (appNew esz e (sub y.c o (len * esz)) len n d m k)
    | .ge e' q => kite (e' = esz) (kite (len + n ≤ q) (appIn esz b o len (.ge esz q) n d m k) (appIn esz b o len (.ge esz (len + n)) n d m k ∧ appNew esz e (sub y.c o (len * esz)) len n d m k)) False) False)
  | _ => False
def appS (esz bytes : Nat) (e : TypeId) (s x : AV) (m : Mem) (k : KV) : Prop := ksrc esz x m fun n d => appD esz bytes e s n d m k
def zrow (zs : List AV) (i : Nat) : AV := lget zs (i % zs.length)
def appZ (zs : List AV) (esz bytes : Nat) (e : TypeId) (s x : AV) (m : Mem) (k : KV) : Prop := match x with
 | .flat (.int .i64 n) => kif (decide (0 ≤ n)) (kite (n.toNat * (bytes + 1) ≤ 140737488355328) (appD esz bytes e s n.toNat (zrow zs) m k) False) False
 | _ => False
abbrev intB (P : Program) (u : TypeId) : Bool := match P.underlying u with
 | some (.int .i64) => true
 | _ => false
abbrev srcB (P : Program) (u : TypeId) : Bool := match P.underlying u with
 | some (.slice _) | some .string => true
 | _ => false
abbrev aappend (P : Program) (args : List AV) (ts : List TypeId) (m : Mem) (k : KV) : Prop := match args, ts with
 | [s, x], [t, u] => match sliceOf P t with
  | some e => match zeros P e with
   | some zs => match srcB P u with
    | true => kite (zs.length = P.cellsOf e ∧ 0 < zs.length) (appS (P.cellsOf e) (bytesOf P e) e s x m k) False
    | false => match intB P u with
     | true => kite (zs.length = P.cellsOf e ∧ 0 < zs.length) (appZ zs (P.cellsOf e) (bytesOf P e) e s x m k) False
     | false => False
   | none => False
  | none => False
 | _, _ => False
def copS (esz : Nat) (s x : AV) (m : Mem) (k : KV) : Prop :=
 ksrc esz x m fun n d => match s with
  | .flat (.slice _ l c) => kite (l = 0 ∧ c = 0) (k (.flat (.int .i64 0)) m) False
  | .e0 => k (.flat (.int .i64 0)) m
  | .sl b o len _ => kite (min n len = 0) (k (.flat (.int .i64 0)) m) (kobj m b fun y => match y.ro with
   | true => False
   | false => kite (o + len * esz ≤ y.n) (k (.flat (.int .i64 (min n len : Nat))) (m.set b { y with c := splice y.c o (min n len * esz) d })) False)
  | _ => False
abbrev acopy (P : Program) (args : List AV) (ts : List TypeId) (m : Mem) (k : KV) : Prop := match args, ts with
 | [s, x], [t, u] => match sliceOf P t with
  | some e => match srcB P u with
   | true => kpos (P.cellsOf e) (copS (P.cellsOf e) s x m k)
   | false => False
  | none => False
 | _, _ => False
abbrev kfunv (v : AV) (k : FuncId → List AV → Prop) : Prop := match v with
 | .flat (.func (.func f) fst cap) => kif (fst.isEmpty && cap.isEmpty) (k f []) False
 | .clo f vs => k f vs
 | _ => False
abbrev kres (P : Program) (t : TypeId) (v : AV) (k : AV → Prop) : Prop := match P.underlying t with
 | some (.int kd) => kI kd v fun n => k (.flat (.int kd n))
 | some .bool => kbool v fun b => k (.flat (.bool b))
 | _ => k v
abbrev chanOf (P : Program) (t : TypeId) : Option TypeId := match P.underlying t with
 | some (.chan _ e) => (match P.info? e with | some _ => some e | none => none)
 | _ => none
def kheld : List AV → Prop → Prop
 | [], A => A
 | v :: l, A => match v with
  | .tup _ => False
  | .clo _ _ => False
  | .junk => False
  | _ => kheld l A
abbrev Env := FuncId → List AV → Mem → KV → Prop
abbrev nilKind (P : Program) (t : TypeId) (y : Operand) : Option Bool := match y with
 | .const (.pointer none) => (match P.underlying t with | some (.pointer _) => some true | _ => none)
 | .const (.slice none _ _) => (match P.underlying t with | some (.slice _) => some false | _ => none)
 | _ => none
abbrev aindexAddr (P : Program) (t : TypeId) (x i : AV) (k : AV → Prop) : Prop :=
 kint i fun _ n => match P.underlying t with
  | some (.array len e) => kpos (P.cellsOf e) (kptr x fun b o => kif (decide (0 ≤ n) && decide (n < len)) (k (.ptr b (o + n.toNat * P.cellsOf e))) False)
  | some (.slice e) => kpos (P.cellsOf e) (ksl x fun b o len _ => kif (decide (0 ≤ n) && decide (n < len)) (k (.ptr b (o + n.toNat * P.cellsOf e))) False)
  | _ => False
abbrev aindex (P : Program) (t : TypeId) (x i : AV) (k : AV → Prop) : Prop :=
 kint i fun _ n => match P.underlying t with
  | some (.array len e) => kpos (P.cellsOf e) (kagg x fun sz c => kif (decide (0 ≤ n) && decide (n < len)) (kpart P e sz c (n.toNat * P.cellsOf e) k) False)
  | some .string => kS x fun s => kif (decide (0 ≤ n) && decide (n < s.size)) (k (.flat (.int .u8 (s.data.getD n.toNat 0).toNat))) False
  | _ => False
abbrev afield (P : Program) (t : TypeId) (x : AV) (f : Nat) (k : AV → Prop) : Prop :=
 match fieldOf P t f with
 | some fd => kagg x fun n c => kpart P fd.type n c fd.offset k
 | none => False
abbrev afieldAddr (P : Program) (t : TypeId) (x : AV) (f : Nat) (k : AV → Prop) : Prop :=
 match fieldOf P t f with
 | some fd => kpos (P.cellsOf fd.type) (kptr x fun b o => k (.ptr b (o + fd.offset)))
 | none => False
abbrev kopt (σ : Nat → AV) (x : Option Operand) (d : Int) (k : Int → Prop) : Prop := match x with
 | none => k d
 | some y => kint (aval σ y) fun _ n => k n
abbrev kcut (b o esz : Nat) (cap : Cap) (lo hi : Nat) (k : AV → Prop) : Prop := match cap with
 | .ex c => kite (lo < c) (k (.sl b (o + lo * esz) (hi - lo) (.ex (c - lo)))) (k (.sl b o 0 (.ex 0)))
 | .ge e q => kite (e = esz) (kite (lo < q) (k (.sl b (o + lo * esz) (hi - lo) (.ge esz (q - lo)))) (k .e0)) False
abbrev kbounds (σ : Nat → AV) (low high : Option Operand) (len cap : Nat) (k : Int → Int → Prop) : Prop :=
 kopt σ low 0 fun lo => kopt σ high len fun hi => kif (decide (0 ≤ lo)) (kif (decide (lo ≤ hi)) (kif (decide (hi ≤ cap)) (k lo hi) False) False) False
abbrev aslice0 (P : Program) (σ : Nat → AV) (t : TypeId) (x : AV) (low high : Option Operand) (k : AV → Prop) : Prop :=
 match P.underlying t with
 | some .string => kS x fun s => kbounds σ low high s.size s.size fun lo hi => k (.flat (.string (s.extract lo.toNat hi.toNat)))
 | some (.slice e) => kpos (P.cellsOf e) (match x with
  | .sl b o len cap => kbounds σ low high len cap.low fun lo hi => kcut b o (P.cellsOf e) cap lo.toNat hi.toNat k
  | .e0 => kbounds σ low high 0 0 fun lo hi => k .e0
  | .flat (.slice a l c) => kite (l = 0 ∧ c = 0) (kbounds σ low high 0 0 fun lo hi => k (.flat (.slice a 0 0))) False
  | _ => False)
 | some (.array n e) => kpos (P.cellsOf e) (kptr x fun b o => kbounds σ low high n n fun lo hi => kcut b o (P.cellsOf e) (.ex n) lo.toNat hi.toNat k)
 | _ => False
abbrev koptI (σ : Nat → AV) (x : Option Operand) (k : Option Int → Prop) : Prop := match x with
 | none => k none
 | some y => kint (aval σ y) fun _ n => k (some n)
abbrev optI (x : Option Int) (d : Int) : Int := match x with
 | none => d
 | some n => n
abbrev kbnd (lo hi : Int) (cap : Nat) (k : Prop) : Prop := kif (decide (0 ≤ lo)) (kif (decide (lo ≤ hi)) (kif (decide (hi ≤ cap)) k False) False) False
def slS (esz : Nat) (x : AV) (lo hi : Option Int) (k : AV → Prop) : Prop := match x with
 | .sl b o len cap => kbnd (optI lo 0) (optI hi len) cap.low (kcut b o esz cap (optI lo 0).toNat (optI hi len).toNat k)
 | .e0 => kbnd (optI lo 0) (optI hi 0) 0 (k .e0)
 | .flat (.slice a l c) => kite (l = 0 ∧ c = 0) (kbnd (optI lo 0) (optI hi 0) 0 (k (.flat (.slice a 0 0)))) False
 | _ => False
def slZ (s : ByteArray) (lo hi : Option Int) (k : ByteArray → Prop) : Prop := kbnd (optI lo 0) (optI hi s.size) s.size (k (s.extract (optI lo 0).toNat (optI hi s.size).toNat))
abbrev aslice (P : Program) (σ : Nat → AV) (t : TypeId) (x : AV) (low high : Option Operand) (k : AV → Prop) : Prop :=
 koptI σ low fun lo => koptI σ high fun hi => match P.underlying t with
  | some .string => kS x fun s => slZ s lo hi fun z => k (.flat (.string z))
  | some (.slice e) => kpos (P.cellsOf e) (slS (P.cellsOf e) x lo hi k)
  | some (.array n e) => kpos (P.cellsOf e) (kptr x fun b o => slS (P.cellsOf e) (.sl b o n (.ex n)) lo hi k)
  | _ => False
abbrev flatOp (P : Program) (σ : Nat → AV) (o : Oper) (k : AV → Prop) : Prop :=
 match o.op.operands.all fun x => (aval σ x).isFlat with
 | true => match pv P (execOp (fun x => (aval σ x).val) o) with
  | some (.value v) => k (ofVal v)
  | _ => False
 | false => False
inductive LK
 | b
 | i (k : IntKind)
 | s
def LK.fits (k : LK) (v : AV) : Bool := match k, v with
 | .b, .flat (.bool _) => true
 | .i q, .flat (.int q' _) => decide (q = q')
 | .s, .flat (.string _) => true
 | _, _ => false
def AV.same (x y : AV) : Bool := match x, y with
 | .flat (.bool a), .flat (.bool b) => a == b
 | .flat (.int _ a), .flat (.int _ b) => a == b
 | .flat (.string a), .flat (.string b) => a.toList == b.toList
 | _, _ => false
def leafs (P : Program) : Nat → TypeId → Option (List (Nat × LK))
 | 0, _ => bump none
 | d + 1, t => match P.underlying t with
  | some .bool => some [(0, .b)]
  | some (.int q) => some [(0, .i q)]
  | some .string => some [(0, .s)]
  | some (.array n e) => (match leafs P d e with
   | some ls => some ((List.range n).flatMap fun j => ls.map fun p => (j * P.cellsOf e + p.1, p.2))
   | none => none)
  | some (.struct fs) => (match fs.toList.all (fun f => f.name != "_") && !P.stoodInHeld t with
   | true => (match fs.toList.mapM fun f => (leafs P d f.type).map fun ls => ls.map fun p => (f.offset + p.1, p.2) with
    | some ll => some ll.flatten
    | none => none)
   | false => none)
  | _ => none
def leafIn (P : Program) : Nat → TypeId → Bool
 | 0, _ => bump false
 | d + 1, t => match P.underlying t with
  | some .bool => true
  | some (.int _) => true
  | some .string => true
  | some (.array n e) => leafIn P d e && (P.cellsOf t == n * P.cellsOf e) && Nat.ble 1 (P.cellsOf e)
  | some (.struct fs) => fs.toList.all fun f => leafIn P d f.type && Nat.ble (f.offset + P.cellsOf f.type) (P.cellsOf t) && Nat.ble 1 (P.cellsOf f.type)
  | _ => false
abbrev geq (ls : List (Nat × LK)) (c c' : Nat → AV) (k : Bool → Prop) : Prop :=
 match ls.all fun p => p.2.fits (c p.1) && p.2.fits (c' p.1) with
 | true => k (ls.all fun p => (c p.1).same (c' p.1))
 | false => False
abbrev aeq (P : Program) (t : TypeId) (x y : AV) (k : Bool → Prop) : Prop :=
 kagg x fun n c => kagg y fun n' c' => match P.eqGuardType P.depth t with
  | true => False
  | false => match leafIn P 12 t with
   | false => False
   | true => match n == P.cellsOf t with
    | false => False
    | true => match n' == P.cellsOf t with
     | false => False
     | true => match leafs P 12 t with
      | some ls => geq ls c c' k
      | none => False
abbrev mapT (P : Program) (t : TypeId) : Option (TypeId × TypeId) := match P.underlying t with | some (.map k e) => some (k, e) | _ => none
abbrev scalarB (P : Program) (t : TypeId) : Bool := match P.underlying t with | some .bool => true | some (.int _) => true | _ => false
abbrev scalarsB (P : Program) (t : TypeId) : Bool := match P.underlying t with | some (.struct fs) => fs.toList.all fun f => scalarB P f.type | _ => false
abbrev notS (k : LK) : Bool := match k with | .s => false | _ => true
abbrev keyLs (P : Program) (t : TypeId) : Option (List (Nat × LK)) := match scalarsB P t && leafIn P 12 t with
 | true => (match leafs P 12 t with
  | some ls => (match (ls.map Prod.fst == List.range (P.cellsOf t)) && ls.all fun p => notS p.2 with | true => some ls | false => none)
  | none => none)
 | false => none
def mfind (ls : List (Nat × LK)) (kn : Nat) (key c : Nat → AV) : Nat → Nat → (Option Nat → Prop) → Prop
 | 0, _, k => k none
 | n + 1, i, k => match c (2 * i) with
  | .agg n' d => kif (n' == kn) (geq ls key d fun b => kif b (k (some i)) (mfind ls kn key c n (i + 1) k)) False
  | _ => False
def mget (ls : List (Nat × LK)) (kn : Nat) (v : AV) (key : Nat → AV) (n : Nat) (z : Nat → AV) (m : Mem) (k : (Nat → AV) → Bool → Prop) : Prop := match v with
 | .mp b => kobj m b fun y => mfind ls kn key y.c y.t 0 fun o => match o with
  | some i => (match y.c (2 * i + 1) with | .agg n' d => kif (n' == n) (k d true) False | _ => False)
  | none => k z false
 | _ => False
def mput (ls : List (Nat × LK)) (kn : Nat) (v : AV) (key : Nat → AV) (n : Nat) (d : Nat → AV) (m : Mem) (k : Mem → Prop) : Prop := match v with
 | .mp b => kobj m b fun y => mfind ls kn key y.c y.t 0 fun o => match o with
  | some i => k (m.set b { y with c := upd (upd y.c (2 * i) (.agg kn key)) (2 * i + 1) (.agg n d) })
  | none => k (m.set b { y with c := upd (upd y.c (2 * y.t) (.agg kn key)) (2 * y.t + 1) (.agg n d), t := y.t + 1 })
 | _ => False
def mdel (ls : List (Nat × LK)) (kn : Nat) (v : AV) (key : Nat → AV) (m : Mem) (k : Mem → Prop) : Prop := match v with
 | .mp b => kobj m b fun y => mfind ls kn key y.c y.t 0 fun o => match o with
  | some i => k (m.set b { y with c := fun j => if j < 2 * i then y.c j else y.c (j + 2), t := y.t - 1 })
  | none => k m
 | _ => False
def mclear (v : AV) (m : Mem) (k : Mem → Prop) : Prop := match v with
 | .mp b => kobj m b fun y => k (m.set b { y with t := 0 })
 | _ => False
def mapNew (m : Mem) (k : Nat → Mem → Prop) : Prop := newK m ⟨0, fun _ => .junk, 0, false⟩ fun b m' => k b m'
def clrS (zs : List AV) (x : AV) (m : Mem) (k : Mem → Prop) : Prop := match x with
 | .flat (.slice _ l c) => kite (l = 0 ∧ c = 0) (k m) False
 | .sl b o n _ => kite (n = 0) (k m) (kobj m b fun y => match y.ro with
  | true => False
  | false => kite (o + n * zs.length ≤ y.n) (k (m.set b { y with c := splice y.c o (n * zs.length) (reprow zs) })) False)
 | _ => False
abbrev aclear (P : Program) (args : List AV) (ts : List TypeId) (m : Mem) (k : KV) : Prop := match args, ts with
 | [x], [t] => match P.underlying t with
  | some (.map _ _) => mclear x m fun m' => k .junk m'
  | some (.slice e) => (match zeros P e with
   | some zs => kpos zs.length (clrS zs x m fun m' => k .junk m')
   | none => False)
  | _ => False
 | _, _ => False
abbrev adelete (P : Program) (args : List AV) (ts : List TypeId) (m : Mem) (k : KV) : Prop := match args, ts with
 | [x, key], t :: _ => match mapT P t with
  | some (kt, _) => (match keyLs P kt with
   | some ls => kagg key fun kn d => kif (kn == P.cellsOf kt) (mdel ls kn x d m fun m' => k .junk m') False
   | none => False)
  | none => False
 | _, _ => False
abbrev zeroA (P : Program) (t : TypeId) : Option (List AV) := match P.info? t with
 | some i => match i.zero with
  | some (.agg cs) => match cs.toList.all Value.oneCell with
   | true => some (cs.toList.map AV.flat)
   | false => none
  | _ => none
 | none => none
abbrev alookup (P : Program) (t : TypeId) (x key : AV) (ok : Bool) (m : Mem) (k : AV → Prop) : Prop := match mapT P t with
 | some (kt, et) => (match keyLs P kt with
  | some ls => (match zeroA P et with
   | some zs => kagg key fun kn d => kif (kn == P.cellsOf kt) (mget ls kn x d zs.length (lget zs) m fun c b => k (match ok with
    | true => .tup [.agg zs.length c, .flat (.bool b)]
    | false => .agg zs.length c)) False
   | none => False)
  | none => False)
 | none => False
abbrev amapUpdate (P : Program) (t : TypeId) (x key v : AV) (m : Mem) (k : KV) : Prop := match mapT P t with
 | some (kt, _) => (match keyLs P kt with
  | some ls => kagg key fun kn d => kif (kn == P.cellsOf kt) (kagg v fun n c => mput ls kn x d n c m fun m' => k .junk m') False
  | none => False)
 | none => False
def slM (x : AV) (lo hi mx : Option Int) (k : Prop) : Prop := match x, lo, hi, mx with
 | .sl _ _ _ cap, some l, some h, some m => kif (decide (0 ≤ l)) (kif (decide (l ≤ h)) (kif (decide (h ≤ m)) (kif (decide (m ≤ cap.low)) k False) False) False) False
 | _, _, _, _ => False
abbrev aslice3 (P : Program) (σ : Nat → AV) (t : TypeId) (x : AV) (low high max : Option Operand) (k : AV → Prop) : Prop := match P.underlying t with
 | some (.slice e) => kpos (P.cellsOf e) (koptI σ low fun lo => koptI σ high fun hi => koptI σ max fun mx => slM x lo hi mx (k .junk))
 | _ => False
inductive Cls | P | L | M
 deriving DecidableEq
abbrev isStrB (P : Program) (s d : TypeId) : Bool := match P.underlying d with
 | some .string => (match P.underlying s with | some (.slice _) => true | _ => false)
 | _ => false
abbrev clsOf (P : Program) : Op → Cls
 | .convert s d _ => match isStrB P s d with | true => .L | false => .P
 | .move _ | .assign _ | .pick .. | .nilCheck _ | .binOp .. | .unOp .. | .fieldAddr .. | .field .. | .indexAddr .. | .index .. | .extract .. | .build .. | .slice .. | .makeFunc .. => .P
 | .call { callee := .builtin .len, .. } | .call { callee := .builtin .min, .. } | .call { callee := .builtin .max, .. } => .P
 | .load .. => .L
 | .lookup .. => .L
 | _ => .M
abbrev apure (P : Program) (σ : Nat → AV) (o : Oper) (k : AV → Prop) : Prop :=
 match o.op with
 | .move x | .assign x => k (aval σ x)
 | .pick c a b => kbool (aval σ c) fun t => kif t (k (aval σ a)) (k (aval σ b))
 | .nilCheck x => kptr (aval σ x) fun b o => k (.ptr b o)
 | .binOp op t x y _ => match nilKind P t y with
  | some true => match op with
   | .eql => knilP (aval σ x) fun b => k (.flat (.bool b))
   | .neq => knilP (aval σ x) fun b => k (.flat (.bool (!b)))
   | _ => False
  | some false => match op with
   | .eql => knilS (aval σ x) fun b => k (.flat (.bool b))
   | .neq => knilS (aval σ x) fun b => k (.flat (.bool (!b)))
   | _ => False
  | none => match op with
   | .quo => kint (aval σ x) fun kx a => kint (aval σ y) fun ky b => kite (kx = ky) (kif (decide (b = 0)) False (k (.flat (.int kx (kx.wrap (a.tdiv b)))))) False
   | .rem => kint (aval σ x) fun kx a => kint (aval σ y) fun ky b => kite (kx = ky) (kif (decide (b = 0)) False (k (.flat (.int kx (a.tmod b))))) False
   | .shl => kint (aval σ x) fun kx a => kint (aval σ y) fun ky b => kif (decide (b < 0)) False (k (.flat (.int kx (kx.wrap (a * 2 ^ min b.toNat kx.bits)))))
   | .shr => kint (aval σ x) fun kx a => kint (aval σ y) fun ky b => kif (decide (b < 0)) False (k (.flat (.int kx (a.fdiv (2 ^ min b.toNat kx.bits)))))
   | .eql => (match isAggB P t with
    | true => aeq P t (aval σ x) (aval σ y) fun b => k (.flat (.bool b))
    | false => flatOp P σ o k)
   | .neq => (match isAggB P t with
    | true => aeq P t (aval σ x) (aval σ y) fun b => k (.flat (.bool (!b)))
    | false => flatOp P σ o k)
   | _ => flatOp P σ o k
 | .unOp .. | .convert .. => flatOp P σ o k
 | .fieldAddr t x f => afieldAddr P t (aval σ x) f k
 | .field t x f => afield P t (aval σ x) f k
 | .indexAddr t x i => aindexAddr P t (aval σ x) (aval σ i) k
 | .index t x i => aindex P t (aval σ x) (aval σ i) k
 | .slice t x low high none => aslice P σ t (aval σ x) low high k
 | .slice t x low high (some mx) => aslice3 P σ t (aval σ x) low high (some mx) k
 | .extract x i => match aval σ x with
  | .tup vs => match vs[i]? with
   | some v => k v
   | none => False
  | _ => False
 | .build t parts => abuild P t (parts.toList.map fun p => (p.1, aval σ p.2)) k
 | .makeFunc f first cap => match f, first.toList with
  | .func f, [] => kheld (cap.toList.map (aval σ)) (k (.clo f (cap.toList.map (aval σ))))
  | _, _ => False
 | .call { callee := .builtin .len, args, argTypes } => match argTypes.toList, args.toList with
  | [t], [x] => match P.underlying t with
   | some (.slice _) => klen (aval σ x) fun n => k (.flat (.int .i64 n))
   | some .string => kS (aval σ x) fun s => k (.flat (.int .i64 s.size))
   | _ => False
  | _, _ => False
 | .call { callee := .builtin .min, .. } | .call { callee := .builtin .max, .. } => flatOp P σ o k
 | _ => False
def kstr (x : AV) (m : Mem) (k : ByteArray → Prop) : Prop := match x with
 | .sl b o n _ => kobj m b fun y => kite (o + n ≤ y.n) (∃ z : ByteArray, z.size = n ∧ (∀ i, i < n → y.c (o + i) = .flat (.int .u8 (z.data.getD i 0).toNat)) ∧ k z) False
 | .e0 => k .empty
 | .flat (.slice _ n c) => kite (n = 0 ∧ c = 0) (k .empty) False
 | _ => False
def frS (F : Nat → Prop) (x : AV) (A : Prop) : Prop := match x with
 | .sl b _ _ _ => F b ∧ A
 | _ => A
abbrev byteSl (P : Program) (t : TypeId) : Bool := match P.underlying t with
 | some (.slice e) => (match P.underlying e with | some (.int .u8) => true | _ => false)
 | _ => false
abbrev aload (P : Program) (fr : Option (Nat → Prop)) (σ : Nat → AV) (m : Mem) (o : Oper) (k : AV → Prop) : Prop :=
 match o.op with
 | .load t a => (match fr with
  | none => ald P t (aval σ a) m k
  | some F => kptr (aval σ a) fun b _ => F b ∧ ald P t (aval σ a) m k)
 | .convert s d x => (match byteSl P s with
  | true => (match fr with
   | none => kstr (aval σ x) m fun z => k (.flat (.string z))
   | some F => frS F (aval σ x) (kstr (aval σ x) m fun z => k (.flat (.string z))))
  | false => False)
 | .lookup t x i ok => (match fr with
  | none => alookup P t (aval σ x) (aval σ i) ok m k
  | some _ => False)
 | _ => False
abbrev amod (P : Program) (Γ : Env) (fr : Option (Nat → Prop)) (σ : Nat → AV) (m : Mem) (o : Oper) (k : KV) : Prop :=
 match o.op with
 | .alloc e => match zeros P e with
  | some zs => newK m ⟨zs.length, lget zs, e, false⟩ fun b m' => k (.ptr b 0) m'
  | none => False
 | .box e x => match cellsV P e (aval σ x) with
  | some (n, c) => kone P e (aval σ x) (newK m ⟨n, c, e, false⟩ fun b m' => k (.ptr b 0) m')
  | none => False
 | .makeChan t s => match chanOf P t with
  | some e => kint (aval σ s) fun _ n => kif (decide (0 ≤ n)) (kite (n ≤ 1000000 ∧ bytesOf P e * n.toNat ≤ 1000000) (k .ch m) False) False
  | none => False
 | .buildSlice t len parts => abuildSlice P t len (parts.toList.map fun p => (p.1, aval σ p.2)) m k
 | .makeSlice t l c => amakeSlice P t (aval σ l) (aval σ c) m k
 | .makeMap t none => (match mapT P t with | some _ => mapNew m fun b m' => k (.mp b) m' | none => False)
 | .mapUpdate t x i v => amapUpdate P t (aval σ x) (aval σ i) (aval σ v) m k
 | .store t a v => (match fr with
  | none => ast P t (aval σ a) (aval σ v) m fun m' => k .junk m'
  | some F => ast P t (aval σ a) (aval σ v) m fun m' => KeepsIn F m m' ∧ k .junk m')
 | .call { callee := .builtin .append, args, argTypes } => (match fr with
  | none => aappend P (args.toList.map (aval σ)) argTypes.toList m k
  | some F => aappend P (args.toList.map (aval σ)) argTypes.toList m fun v m' => KeepsIn F m m' ∧ k v m')
 | .call { callee := .builtin .copy, args, argTypes } => acopy P (args.toList.map (aval σ)) argTypes.toList m k
 | .call { callee := .builtin .clear, args, argTypes } => aclear P (args.toList.map (aval σ)) argTypes.toList m k
 | .call { callee := .builtin .delete, args, argTypes } => adelete P (args.toList.map (aval σ)) argTypes.toList m k
 | .call { callee := .value (.func f), args, .. } => (match fr with
  | none => Γ f (args.toList.map (aval σ)) m k
  | some F => Γ f (args.toList.map (aval σ)) m fun v m' => KeepsIn F m m' ∧ k v m')
 | .call { callee := .value (.tmp t), args, .. } => kfunv (σ t) fun f xs => (match fr with
  | none => Γ f (args.toList.map (aval σ) ++ xs) m fun v m' => kres P o.type v fun v' => k v' m'
  | some F => Γ f (args.toList.map (aval σ) ++ xs) m fun v m' => KeepsIn F m m' ∧ kres P o.type v fun v' => k v' m')
 | _ => False
def clo (all : Array Oper) (i : Nat) : Nat := (Region.before all).getD i 0
def isSt : Op → Bool
 | .store .. => true
 | _ => false
def freeS (P : Program) (all : Array Oper) (o : Oper) : Bool := isSt o.op && (List.range all.size).all fun j => match all[j]? with
 | none => true
 | some y => match clsOf P y.op with
  | .L => o.after.any fun e => Region.binds .any e && (e.on == j || (decide (j < e.on) && (clo all e.on).testBit j))
  | _ => true
def frOf (P : Program) (all : Array Oper) (fr : Option (Nat → Prop)) (o : Oper) : Option (Nat → Prop) := match fr with
 | none => none
 | some F => match freeS P all o with
  | true => none
  | false => some F
abbrev opK (P : Program) (Γ : Env) (fr : Option (Nat → Prop)) (σ : Nat → AV) (m : Mem) (o : Oper) (k : KV) : Prop :=
 match clsOf P o.op with
 | .P => apure P σ o fun v => k v m
 | .L => aload P fr σ m o fun v => k v m
 | .M => amod P Γ fr σ m o k
abbrev putA (σ : Nat → AV) (d : Option Tmp) (v : AV) : Nat → AV := match d with | some d => upd σ d v | none => σ
def regK (P : Program) (Γ : Env) (fr : Option (Nat → Prop)) (all : Array Oper) : List Oper → (Nat → AV) → Mem → ((Nat → AV) → Mem → Prop) → Prop
 | [], σ, m, k => bump (k σ m)
 | o :: rest, σ, m, k => match o.guard with
  | none => opK P Γ (frOf P all fr o) σ m o fun v m' => regK P Γ fr all rest (putA σ o.dst v) m' k
  | some (j, want) => match (all[j]?).bind (·.dst) with
   | none => False
   | some d => match σ d with
    | .flat (.bool t) => (match want with
     | true => kif t (opK P Γ (frOf P all fr o) (upd σ d (.flat (.bool true))) m o fun v m' => regK P Γ fr all rest (putA (upd σ d (.flat (.bool true))) o.dst v) m' k) (regK P Γ fr all rest (putA (upd σ d (.flat (.bool false))) o.dst (.flat undef)) m k)
     | false => kif t (regK P Γ fr all rest (putA (upd σ d (.flat (.bool true))) o.dst (.flat undef)) m k) (opK P Γ (frOf P all fr o) (upd σ d (.flat (.bool false))) m o fun v m' => regK P Γ fr all rest (putA (upd σ d (.flat (.bool false))) o.dst v) m' k))
    | .flat (.tuple _) => regK P Γ fr all rest (putA σ o.dst (.flat undef)) m k
    | _ => False
inductive Ex
 | normal
 | exit (id : Nat)
 | ret
abbrev KX := Ex → (Nat → AV) → Mem → Prop
structure LEnv where
 loop : Code → (Nat → AV) → Mem → KX → Prop
 frz : Nat → Bool
 cut : Code → Bool
 piece : Code → (Nat → AV) → Mem → KX → Prop
def firstReg : Code → Option Nat
 | .region id _ _ => some id
 | .seq a b => match firstReg a with | some i => some i | none => firstReg b
 | .cond _ a b => match firstReg a with | some i => some i | none => firstReg b
 | .block _ a | .loop a | .scope a => firstReg a
 | _ => none
def wpA (P : Program) (Γ : Env) (Λ : LEnv) : Code → (Nat → AV) → Mem → KX → Prop
 | .skip, σ, m, k => bump (k .normal σ m)
 | .label _, σ, m, k => k .normal σ m
 | .region id ops _, σ, m, k => (match Λ.frz id with
  | false => regK P Γ none ops ops.toList σ m fun σ' m' => k .normal σ' m'
  | true => ∃ F : Nat → Prop, regK P Γ (some F) ops ops.toList σ m fun σ' m' => k .normal σ' m')
 | .seq a b, σ, m, k => wpA P Γ Λ a σ m fun e σ' m' => match e with
  | .normal => (match Λ.cut b with | true => Λ.piece b σ' m' k | false => wpA P Γ Λ b σ' m' k)
  | .exit id => k (.exit id) σ' m'
  | .ret => k .ret σ' m'
 | .cond c a b, σ, m, k => kbool (aval σ c) fun t => kif t (wpA P Γ Λ a σ m k) (wpA P Γ Λ b σ m k)
 | .block id a, σ, m, k => wpA P Γ Λ a σ m fun e σ' m' => match e with
  | .normal => k .normal σ' m'
  | .exit j => match j == id with | true => k .normal σ' m' | false => k (.exit j) σ' m'
  | .ret => k .ret σ' m'
 | .loop a, σ, m, k => Λ.loop a σ m k
 | .scope a, σ, m, k => wpA P Γ Λ a σ m k
 | .exit id, σ, m, k => k (.exit id) σ m
 | .ret, σ, m, k => k .ret σ m
 | _, _, _, _ => False
def only : List Nat → List AV → Nat → AV
 | t :: ts, v :: vs => upd (only ts vs) t v
 | _, _ => fun _ => .junk
def rounds (P : Program) (Γ : Env) (Λ : LEnv) (live : List Nat) (lx : Ex → List Nat) (body : Code) : Nat → List AV → Mem → KX → Prop
 | 0, _, _, _ => False
 | n + 1, vs, m, k => wpA P Γ Λ body (only live vs) m fun e σ' m' => match e with
  | .normal => rounds P Γ Λ live lx body n (live.map σ') m' k
  | .exit id => k (.exit id) (only (lx (.exit id)) ((lx (.exit id)).map σ')) m'
  | .ret => k .ret (only (lx .ret) ((lx .ret).map σ')) m'
def once (P : Program) (Γ : Env) (Λ : LEnv) (live : List Nat) (lx : Ex → List Nat) (body : Code) (vs : List AV) (m : Mem) (k : KX) : Prop :=
 wpA P Γ Λ body (only live vs) m fun e σ' m' => match e with
  | .normal => k .normal (only (lx .normal) ((lx .normal).map σ')) m'
  | .exit id => k (.exit id) (only (lx (.exit id)) ((lx (.exit id)).map σ')) m'
  | .ret => k .ret (only (lx .ret) ((lx .ret).map σ')) m'
abbrev resL (P : Program) : List ResultVar → (Nat → AV) → Mem → (List AV → Prop) → Prop
 | [], _, _, k => k []
 | .tmp t :: rs, σ, m, k => resL P rs σ m fun vs => k (σ t :: vs)
 | .cell a t :: rs, σ, m, k => ald P t (σ a) m fun v => resL P rs σ m fun vs => k (v :: vs)
def knt (v : AV) (A : Prop) : Prop := match v with
 | .tup _ => False
 | .clo _ _ => False
 | _ => A
def kntL : List AV → Prop → Prop
 | [], A => A
 | v :: vs, A => knt v (kntL vs A)
abbrev resK (P : Program) (rs : List ResultVar) (σ : Nat → AV) (m : Mem) (k : AV → Prop) : Prop :=
 match rs with
 | [.tmp t] => k (σ t)
 | [.cell a t] => ald P t (σ a) m k
 | rs => resL P rs σ m fun vs => kntL vs (k (.tup vs))
def AV.isPlain : AV → Bool
 | .flat _ => true
 | .junk => true
 | .tup vs => vs.all AV.isFlat
 | _ => false
def AV.inDom2 (m : Mem) (v : AV) : Prop := match v with
 | .agg n c => InDomG n m c
 | .tup vs => vs.foldr (fun v A => (match v with | .agg n c => InDomG n m c ∧ A | .flat _ => A | v => v.inDom m ∧ A)) True
 | v => v.inDom m
abbrev backK (dr : Bool) (m : Mem) (k : KV) (v : AV) (m' : Mem) : Prop := match dr with
 | false => k v m'
 | true => match v.isPlain with
  | true => Keeps m m' ∧ k v m
  | false => Keeps m m' ∧ v.inDom2 m ∧ k v m
abbrev bodyK (P : Program) (Γ : Env) (Λ : LEnv) (fn : Func) (dr : Bool) (args : List AV) (m : Mem) (k : KV) : Prop :=
 match fn.body with
 | some c => wpA P Γ Λ c (only (List.range args.length) args) m fun e σ' m' => match e with
  | .exit _ => False
  | .normal => resK P fn.results.toList σ' m' fun v => backK dr m k v m'
  | .ret => resK P fn.results.toList σ' m' fun v => backK dr m k v m'
 | none => False
end Go.Proofs.YtkiggdgphbkneaaGreat.Am
