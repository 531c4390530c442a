import Derived.Test.YtlpjeckhejbkkaaMem
set_option linter.unusedVariables false
set_option linter.unusedSimpArgs false
namespace Go.Proofs.Ytlpjeckhejbkkaa

/-! ### numbers, bytes, what is laid -/
abbrev Bytes := List UInt8
abbrev bv (x : UInt8) : Value := .int .u8 (x.toNat : Int)

def putNum (x : Nat) : Bytes := if x < 128 then [UInt8.ofNat x] else UInt8.ofNat (x % 128 + 128) :: putNum (x / 128)
termination_by x
decreasing_by omega

def zig (x : Int) : Nat := if 0 ≤ x then 2 * x.toNat else 2 * (-(x + 1)).toNat + 1
def zag (n : Nat) : Int := if n % 2 = 0 then ((n / 2 : Nat) : Int) else -((n / 2 : Nat) : Int) - 1

/-! ### reading -/
inductive Rd (α : Type) where
  | ok (a : α) (pos : Nat)
  | bad (why at_ : Nat)
def Rd.bind {α β : Type} (r : Rd α) (f : α → Nat → Rd β) : Rd β :=
  match r with
  | .ok a p => f a p
  | .bad w a => .bad w a

/-- a number's form: the number, how many bytes, what is wrong (0: nothing) -/
def numAt : Nat → Nat → Bytes → Nat × Nat × Nat
  | i, _, [] => if 10 ≤ i then (0, 0, 22) else (0, 0, 20)
  | i, acc, c :: r =>
    if 10 ≤ i then (0, 0, 22)
    else if i = 9 ∧ 1 < c.toNat then (0, 0, 22)
    else if c.toNat < 128 then (if c.toNat = 0 ∧ 0 < i then (0, 0, 21) else (acc + c.toNat * 128 ^ i, i + 1, 0))
    else numAt (i + 1) (acc + c.toNat % 128 * 128 ^ i) r
def rdNum (xs : Bytes) (pos most : Nat) : Rd Nat :=
  let t := numAt 0 0 (xs.drop pos)
  if t.2.2 = 0 then (if most < t.1 then .bad 22 pos else .ok t.1 (pos + t.2.1)) else .bad t.2.2 pos
def rdRaw (xs : Bytes) (pos n : Nat) : Rd Bytes := if xs.length < pos + n then .bad 20 pos else .ok ((xs.drop pos).take n) (pos + n)
def rdByte (xs : Bytes) (pos : Nat) : Rd UInt8 := if h : pos < xs.length then .ok xs[pos] (pos + 1) else .bad 20 pos
def rdBytes (xs : Bytes) (pos most : Nat) : Rd Bytes := (rdNum xs pos most).bind fun n p => rdRaw xs p n
def rdSigned (xs : Bytes) (pos : Nat) : Rd Int := (rdNum xs pos 18446744073709551615).bind fun n p => .ok (zag n) p

/-! ### hashes, operations -/
structure GHash where
  l : Bytes
  h : l.length = 32
deriving DecidableEq
def GHash.zero : GHash := ⟨List.replicate 32 0, by simp⟩
structure GIdent where
  node : GHash
  op : Int
deriving DecidableEq
def GIdent.zero : GIdent := ⟨GHash.zero, 0⟩
structure GOp where
  kind : Int
  key : ByteArray
  text : ByteArray
  n : Int
  at_ : GIdent
deriving DecidableEq
def GOp.zero : GOp := ⟨0, ⟨#[]⟩, ⟨#[]⟩, 0, GIdent.zero⟩

def rdHash (xs : Bytes) (pos : Nat) : Rd GHash :=
  if h : pos + 32 ≤ xs.length then .ok ⟨(xs.drop pos).take 32, by simp; omega⟩ (pos + 32) else .bad 20 pos

def hasText (k : Int) : Bool := k == 1 || k == 3 || k == 4 || k == 8
def hasAt (k : Int) : Bool := k == 8 || k == 9
def cellOf (k : Int) : Int := if k = 1 ∨ k = 2 then 1 else if k = 3 ∨ k = 4 ∨ k = 5 then 2 else if k = 6 ∨ k = 7 then 3 else if k = 8 ∨ k = 9 then 4 else 0
def known (k : Int) : Bool := decide (1 ≤ k ∧ k ≤ 9)

/-- may the At of an operation behind others be? -/
def atMay (l : List GOp) (o : GOp) : Bool :=
  if o.at_.node = GHash.zero then
    if o.at_.op = 0 then o.kind == 8
    else if 1 ≤ o.at_.op ∧ o.at_.op ≤ l.length then
      match l[(o.at_.op - 1).toNat]? with
      | some x => x.kind == 8 && x.key == o.key
      | none => false
    else false
  else decide (1 ≤ o.at_.op ∧ o.at_.op ≤ 1024)
def wrongOp (l : List GOp) (o : GOp) : Nat :=
  if known o.kind = false then 40
  else if 65536 < o.key.size ∨ 65536 < o.text.size then 4
  else if (hasText o.kind = false ∧ o.text.size ≠ 0) ∨ (o.kind ≠ 6 ∧ o.n ≠ 0) ∨ (hasAt o.kind = false ∧ o.at_ ≠ GIdent.zero) then 41
  else if hasAt o.kind = true ∧ atMay l o = false then 42
  else 0
def checkFrom (done : List GOp) : List GOp → Nat × Nat
  | [] => (0, 0)
  | o :: r => if wrongOp done o = 0 then checkFrom (done ++ [o]) r else (wrongOp done o, done.length)
def checkOps (l : List GOp) : Nat × Nat := if 1024 < l.length then (3, 0) else checkFrom [] l

def putText (s : ByteArray) : Bytes := putNum s.size ++ s.data.toList
def putAt (a : GIdent) : Bytes := putNum a.op.toNat ++ (if a.op = 0 then [] else a.node.l)
def putOp (o : GOp) : Bytes :=
  UInt8.ofNat (o.kind.toNat % 256) :: (putText o.key ++ ((if hasText o.kind then putText o.text else []) ++
    ((if o.kind = 6 then putNum (zig o.n) else []) ++ (if hasAt o.kind then putAt o.at_ else []))))
def putOps (l : List GOp) : Bytes := putNum l.length ++ l.flatMap putOp

def rdText (xs : Bytes) (pos : Nat) : Rd ByteArray := (rdBytes xs pos 65536).bind fun b p => .ok ⟨b.toArray⟩ p
def rdAt (xs : Bytes) (pos : Nat) : Rd GIdent :=
  (rdNum xs pos 1024).bind fun n p => if n = 0 then .ok GIdent.zero p else (rdHash xs p).bind fun h q => .ok ⟨h, n⟩ q
def rdOp (xs : Bytes) (pos : Nat) (done : List GOp) : Rd GOp :=
  (rdByte xs pos).bind fun k p1 =>
    if known k.toNat = false then .bad 40 pos else
    (rdText xs p1).bind fun key p2 =>
    (if hasText k.toNat then rdText xs p2 else .ok ⟨#[]⟩ p2 : Rd ByteArray).bind fun text p3 =>
    (if (k.toNat : Int) = 6 then rdSigned xs p3 else .ok 0 p3 : Rd Int).bind fun n p4 =>
    if hasAt k.toNat then
      (rdAt xs p4).bind fun a p5 => if atMay done ⟨k.toNat, key, text, n, a⟩ then .ok ⟨k.toNat, key, text, n, a⟩ p5 else .bad 42 p4
    else .ok ⟨k.toNat, key, text, n, GIdent.zero⟩ p4
def rdList (xs : Bytes) : Nat → Nat → List GOp → Rd (List GOp)
  | 0, pos, done => .ok done pos
  | k + 1, pos, done => (rdOp xs pos done).bind fun o p => rdList xs k p (done ++ [o])
def rdOps (xs : Bytes) (pos : Nat) : Rd (List GOp) := (rdNum xs pos 1024).bind fun n p => rdList xs n p []

/-! ### as values -/
def GHash.cells (h : GHash) : List Value := h.l.map bv
def GHash.val (h : GHash) : Value := .agg h.cells.toArray
def GIdent.cells (a : GIdent) : List Value := a.node.cells ++ [.int .i64 a.op]
def GIdent.val (a : GIdent) : Value := .agg a.cells.toArray
def GOp.cells (o : GOp) : List Value := .int .i64 o.kind :: .string o.key :: .string o.text :: .int .i64 o.n :: o.at_.cells
def GOp.val (o : GOp) : Value := .agg o.cells.toArray
theorem GHash.cells_length (h : GHash) : h.cells.length = 32 := by simp [GHash.cells, h.h]
theorem GIdent.cells_length (a : GIdent) : a.cells.length = 33 := by simp [GIdent.cells, GHash.cells_length]
theorem GOp.cells_length (o : GOp) : o.cells.length = 37 := by simp [GOp.cells, GIdent.cells_length]
end Go.Proofs.Ytlpjeckhejbkkaa
