/-
  THE PLAIN MODEL of the tower: locks, ledger, gate: plain functions on plain data; no Go in sight.
-/
namespace Go.Proofs.Qxb6500360a.V

def bump (n : Int) : Int := if 99 ≤ n then 99 else n + 1
def good (k : Int) : Bool := decide (0 ≤ k) && decide (k < 4)

def dg (n : Nat) : UInt8 := UInt8.ofNat (48 + n)
def itoaN (n : Nat) : List UInt8 :=
  if n < 10 then [dg n]
  else if n < 100 then [dg (n / 10), dg (n % 10)]
  else if n < 1000 then [dg (n / 100), dg (n / 10 % 10), dg (n % 10)]
  else [dg (n / 1000), dg (n / 100 % 10), dg (n / 10 % 10), dg (n % 10)]
def itoa (n : Int) : List UInt8 := itoaN n.toNat

/-! ### L1: the table of locks -/
structure Tb where
  op : List Bool
  gn : List Int
  tr : List UInt8

def Tb.o (t : Tb) (k : Nat) : Bool := t.op.getD k false
def Tb.g (t : Tb) (k : Nat) : Int := t.gn.getD k 0
def Tb.ov (t : Tb) (k : Nat) : Int := if t.o k then (k : Int) + 4 * t.g k else -1
def Tb.note (t : Tb) (c : UInt8) (k : Nat) : Tb := if t.tr.length < 24 then { t with tr := t.tr ++ [c, dg k] } else t
def Tb.clear (t : Tb) : Tb := { t with tr := [] }
def Tb.take (t : Tb) (k : Nat) : Tb := Tb.note { t with op := t.op.set k true } 65 k
def Tb.give (t : Tb) (k : Nat) : Tb := Tb.note { t with op := t.op.set k false, gn := t.gn.set k ((t.g k + 1) % 4) } 82 k
def Tb.acq (t : Tb) (k : Int) : Tb × Int × Int :=
  if good k then
    if t.o k.toNat then (t, 0, 4) else (t.take k.toNat, k + 4 * t.g k.toNat, 0)
  else (t, 0, 2)
def Tb.rel (t : Tb) (h : Int) : Tb × Int :=
  if 0 ≤ h ∧ h < 16 then
    if t.ov (h % 4).toNat == h then (t.give (h % 4).toNat, 0) else (t, 5)
  else (t, 2)
def Tb.pair (t : Tb) (a b : Int) : Tb × Int × Int × Int :=
  if good a && good b then
    if a = b then (t, 0, 0, 3)
    else
      let lo := if b < a then b else a
      let hi := if b < a then a else b
      let r := t.acq lo
      if r.2.2 = 0 then
        let q := r.1.acq hi
        if q.2.2 = 0 then
          (q.1, (if a < b then r.2.1 else q.2.1), (if a < b then q.2.1 else r.2.1), 0)
        else ((q.1.rel r.2.1).1, 0, 0, q.2.2)
      else (r.1, 0, 0, r.2.2)
  else (t, 0, 0, 2)
def Tb.held (t : Tb) : Int := (t.op.count true : Nat)
structure Tb.Wf (t : Tb) : Prop where
  lo : t.op.length = 4
  lg : t.gn.length = 4
  g : ∀ k, k < 4 → 0 ≤ t.g k ∧ t.g k < 4
  tr : t.tr.length ≤ 24
  ev : t.tr.length % 2 = 0
def Tb.show (t : Tb) : List UInt8 :=
  [111, 112, 101, 110, 61] ++ (List.range 4).flatMap (fun k => if t.o k then [49] else [48])
    ++ [32, 103, 101, 110, 61] ++ (List.range 4).flatMap (fun k => itoa (t.g k))
    ++ [32, 116, 114, 97, 99, 101, 61] ++ t.tr
def Tb.fresh : Tb := ⟨[false, false, false, false], [0, 0, 0, 0], []⟩

/-! ### L2: the ledger -/
structure Mv where
  f : Int
  t : Int
  a : Int

structure Ld where
  bal : List Int
  und : Int
  t : Tb

def bl (bal : List Int) (k : Nat) : Int := bal.getD k 0
def check (m : Mv) : Int :=
  if good m.f && good m.t && decide (1 ≤ m.a) && decide (m.a ≤ 999) then
    if m.f = m.t then 3 else 0
  else 2
def pay (bal : List Int) (m : Mv) : List Int × Int :=
  if bl bal m.f.toNat < m.a then (bal, 6)
  else if 250 < bl bal m.t.toNat + m.a then (bal, 7)
  else ((bal.set m.f.toNat (bl bal m.f.toNat - m.a)).set m.t.toNat (bl bal m.t.toNat + m.a), 0)

def Ld.balance (d : Ld) (k : Int) : Ld × Int × Int :=
  let r := d.t.clear.acq k
  if r.2.2 = 0 then ({ d with t := (r.1.rel r.2.1).1 }, bl d.bal k.toNat, 0)
  else ({ d with t := r.1 }, 0, r.2.2)
def Ld.transfer (d : Ld) (m : Mv) : Ld × Int × Int :=
  if check m = 0 then
    let r := d.t.clear.pair m.f m.t
    if r.2.2.2 = 0 then
      let p := pay d.bal m
      let t := ((r.1.rel r.2.2.1).1.rel r.2.1).1
      if p.2 = 0 then ({ bal := p.1, und := d.und, t := t }, bl p.1 m.f.toNat, 0)
      else ({ bal := d.bal, und := if p.2 = 7 then bump d.und else d.und, t := t }, 0, p.2)
    else ({ d with t := r.1 }, 0, r.2.2.2)
  else ({ d with t := d.t.clear }, 0, check m)
/-- Split: 'none' in the place of the answer: the division by zero. (parts: not negative.) -/
def Ld.split (d : Ld) (k parts : Int) : Ld × Option (Int × Int) :=
  let r := d.t.clear.acq k
  if r.2.2 = 0 then
    ({ d with t := (r.1.rel r.2.1).1 }, if parts = 0 then none else some (bl d.bal k.toNat / parts, 0))
  else ({ d with t := r.1 }, some (0, r.2.2))

structure Bst where
  t : Tb
  mine : List Bool
  hs : List Int
  bal : List Int

def Bst.lock (s : Bst) (k : Int) : Bst × Int :=
  if s.mine.getD k.toNat false then (s, 0)
  else
    let r := s.t.acq k
    if r.2.2 = 0 then ({ s with t := r.1, mine := s.mine.set k.toNat true, hs := r.2.1 :: s.hs }, 0)
    else ({ s with t := r.1 }, r.2.2)
def Bst.locks (s : Bst) (m : Mv) : Bst × Int :=
  let a := s.lock m.f
  if a.2 = 0 then a.1.lock m.t else a
def Bst.move (s : Bst) (m : Mv) : Bst × Int :=
  if check m = 0 then
    let a := s.locks m
    if a.2 = 0 then ({ a.1 with bal := (pay a.1.bal m).1 }, (pay a.1.bal m).2) else a
  else (s, check m)
def Bst.run : Bst → Int → List Mv → Bst × Int × Int
  | s, i, [] => (s, i, 0)
  | s, i, m :: ms => if (s.move m).2 = 0 then (s.move m).1.run (i + 1) ms else ((s.move m).1, i, (s.move m).2)
def relAll (t : Tb) : List Int → Tb
  | [] => t
  | h :: hs => relAll (t.rel h).1 hs
def Ld.batch (d : Ld) (ms : List Mv) : Ld × Int × Int :=
  if ms.length ≤ 3 then
    let r := Bst.run ⟨d.t.clear, [false, false, false, false], [], d.bal⟩ 0 ms
    if r.2.2 = 0 then ({ bal := r.1.bal, und := d.und, t := relAll r.1.t r.1.hs }, (ms.length : Int), 0)
    else ({ bal := d.bal, und := if 0 < r.2.1 ∨ r.2.2 = 7 then bump d.und else d.und, t := relAll r.1.t r.1.hs }, r.2.1, r.2.2)
  else (d, 0, 1)
def cenGo (bal : List Int) : Nat → Tb → Nat → Int → Tb × Int × Int
  | 0, t, _, n => (t, n, 0)
  | r + 1, t, k, n =>
    if (t.acq k).2.2 = 0 then cenGo bal r ((t.acq k).1.rel (t.acq k).2.1).1 (k + 1) (n + bl bal k)
    else ((t.acq k).1, 0, (t.acq k).2.2)
def Ld.census (d : Ld) : Ld × Int × Int :=
  let r := cenGo d.bal 4 d.t.clear 0 0
  ({ d with t := r.1 }, r.2.1, r.2.2)
def Ld.audit (d : Ld) : Int := bl d.bal 0 + bl d.bal 1 + bl d.bal 2 + bl d.bal 3
def Ld.show (d : Ld) : List UInt8 :=
  [98, 97, 108, 61] ++ (List.range 4).flatMap (fun k => itoa (bl d.bal k) ++ [44])
    ++ [32, 117, 110, 100, 111, 110, 101, 61] ++ itoa d.und ++ [32, 124, 32] ++ d.t.show
structure Ld.Wf (d : Ld) : Prop where
  lb : d.bal.length = 4
  b : ∀ k, k < 4 → 0 ≤ bl d.bal k ∧ bl d.bal k ≤ 250
  sum : d.audit = 400
  u0 : 0 ≤ d.und
  u1 : d.und ≤ 99
  t : d.t.Wf
def Ld.fresh : Ld := ⟨[100, 100, 100, 100], 0, Tb.fresh⟩

/-! ### L3: the gate -/
def isDig (s : List UInt8) (p : Nat) : Bool := decide (p < s.length) && (decide (48 ≤ (s.getD p 0).toNat) && decide ((s.getD p 0).toNat ≤ 57))
def digV (s : List UInt8) (p : Nat) : Int := ((s.getD p 0).toNat : Int) - 48
/-- Each reader answers a value and the place behind it, or the place of the first byte that does not fit. -/
def pDig (s : List UInt8) (p : Nat) : Except Nat (Int × Nat) := if isDig s p then .ok (digV s p, p + 1) else .error p
def pNum (s : List UInt8) (p : Nat) : Except Nat (Int × Nat) :=
  if isDig s p then
    if isDig s (p + 1) then
      if isDig s (p + 2) then .ok ((digV s p * 10 + digV s (p + 1)) * 10 + digV s (p + 2), p + 3)
      else .ok (digV s p * 10 + digV s (p + 1), p + 2)
    else .ok (digV s p, p + 1)
  else .error p
def pMove (s : List UInt8) (p : Nat) : Except Nat (Mv × Nat) :=
  if isDig s p then
    if isDig s (p + 1) then
      match pNum s (p + 2) with
      | .ok r => .ok (⟨digV s p, digV s (p + 1), r.1⟩, r.2)
      | .error q => .error q
    else .error (p + 1)
  else .error p
def pMust (s : List UInt8) (b : UInt8) (p : Nat) : Except Nat Nat := if decide (p < s.length) && (s.getD p 0 == b) then .ok (p + 1) else .error p
/-- One move or more, each closed by ';', to the request's end. -/
def pMoves (s : List UInt8) : Nat → Nat → List Mv → Except Nat (List Mv)
  | 0, p, _ => .error p
  | f + 1, p, ms =>
    match pMove s p with
    | .ok r =>
      match pMust s 59 r.2 with
      | .ok q => if q < s.length then pMoves s f q (ms ++ [r.1]) else .ok (ms ++ [r.1])
      | .error e => .error e
    | .error e => .error e

structure Cmd where
  verb : UInt8
  m : Mv
  ms : List Mv

def pEnd (s : List UInt8) (p : Nat) (c : Cmd) : Except Nat Cmd := if p < s.length then .error p else .ok c
def decode (s : List UInt8) : Except Nat Cmd :=
  match s with
  | [] => .error 0
  | v :: _ =>
    if v = 65 then pEnd s 1 ⟨v, ⟨0, 0, 0⟩, []⟩
    else if v = 66 ∨ v = 78 then
      if isDig s 1 then pEnd s 2 ⟨v, ⟨digV s 1, 0, 0⟩, []⟩ else .error 1
    else if v = 83 then
      if isDig s 1 then
        if isDig s 2 then pEnd s 3 ⟨v, ⟨digV s 1, digV s 2, 0⟩, []⟩ else .error 2
      else .error 1
    else if v = 84 then
      match pMove s 1 with
      | .ok r => pEnd s r.2 ⟨v, r.1, []⟩
      | .error e => .error e
    else if v = 88 then
      match pMoves s s.length 1 [] with
      | .ok ms => .ok ⟨v, ⟨0, 0, 0⟩, ms⟩
      | .error e => .error e
    else .error 0

def name (k : Int) : List UInt8 :=
  if k = 0 then [97, 110, 110] else if k = 1 then [98, 111, 98] else if k = 2 then [99, 121, 100] else [100, 101, 101]
def shape (verb : UInt8) (n e : Int) : List UInt8 × Int :=
  if e = 0 then (itoa n, 0) else if verb = 88 then ([35] ++ itoa n, e) else ([], e)
/-- The decoded command's one call: the ledger behind it, and the answer; 'none': a runtime panic. -/
def run (d : Ld) (c : Cmd) : Ld × Option (List UInt8 × Int) :=
  if c.verb = 65 then (d.census.1, some (shape 65 d.census.2.1 d.census.2.2))
  else if c.verb = 66 then ((d.balance c.m.f).1, some (shape 66 (d.balance c.m.f).2.1 (d.balance c.m.f).2.2))
  else if c.verb = 78 then (d, if c.m.f < 4 then some (name c.m.f, 0) else none)
  else if c.verb = 83 then
    ((d.split c.m.f c.m.t).1, match (d.split c.m.f c.m.t).2 with
      | some r => some (shape 83 r.1 r.2)
      | none => none)
  else if c.verb = 84 then ((d.transfer c.m).1, some (shape 84 (d.transfer c.m).2.1 (d.transfer c.m).2.2))
  else ((d.batch c.ms).1, some (shape 88 (d.batch c.ms).2.1 (d.batch c.ms).2.2))

/-- A request's answer, and the ledger behind it. -/
def answer (d : Ld) (s : List UInt8) : Ld × List UInt8 × Int :=
  if s.length ≤ 20 then
    match decode s with
    | .ok c =>
      match (run d c).2 with
      | some r => ((run d c).1, r.1, r.2)
      | none => ((run d c).1, [], 9)
    | .error p => (d, [64] ++ itoa (p : Int), 8)
  else (d, [], 1)

structure Ct where
  ok : Int
  bad : Int
  er : Int
  it : Int

def Ct.count (c : Ct) (e : Int) : Ct :=
  if e = 0 then { c with ok := bump c.ok }
  else if e = 1 ∨ e = 8 then { c with bad := bump c.bad }
  else if e = 9 then { c with it := bump c.it }
  else { c with er := bump c.er }
structure Ct.Wf (c : Ct) : Prop where
  wa : 0 ≤ c.ok ∧ c.ok ≤ 99
  wb : 0 ≤ c.bad ∧ c.bad ≤ 99
  wc : 0 ≤ c.er ∧ c.er ≤ 99
  wd : 0 ≤ c.it ∧ c.it ≤ 99
def Ct.head (c : Ct) : List UInt8 :=
  [111, 107, 61] ++ itoa c.ok ++ [32, 98, 97, 100, 61] ++ itoa c.bad ++ [32, 101, 114, 114, 61] ++ itoa c.er ++ [32, 105, 110, 116, 61] ++ itoa c.it ++ [32, 124, 32]

structure Gt where
  c : Ct
  d : Ld

def Gt.serve (g : Gt) (s : List UInt8) : Gt × List UInt8 × Int :=
  (⟨g.c.count (answer g.d s).2.2, (answer g.d s).1⟩, (answer g.d s).2.1, (answer g.d s).2.2)
def Gt.show (g : Gt) : List UInt8 := g.c.head ++ g.d.show
structure Gt.Wf (g : Gt) : Prop where
  c : g.c.Wf
  d : g.d.Wf
def Gt.fresh : Gt := ⟨⟨0, 0, 0, 0⟩, Ld.fresh⟩

end Go.Proofs.Qxb6500360a.V
