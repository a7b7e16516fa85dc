/- Lemmas for FoldTells, part 1: walks of the functions that it reaches, and the plain laws behind them. -/
import Derived.Test.YtehllcbnheicoaaGreatDoorRows
import Derived.WalkKit
import Derived.WalkSpells
import Derived.WalkLawsBesides
import Derived.Lib.Strings
import Derived.Lib.Hide
import Derived.Deep.QuietTactic
import Derived.BigQuiet
import Derived.Deep.AppendLies
import Derived.Laws.AppendOwnNone
import Derived.Deep.RegionLaw
set_option linter.unusedSimpArgs false
set_option linter.unusedVariables false
set_option maxRecDepth 100000
set_option maxHeartbeats 16000000
namespace Go.Proofs.YtehllcbnheicoaaGreatDoor
abbrev VI:=UInt8 × UInt8
def hasArg (op : UInt8) : Bool:=op == 1 || op == 2 || op == 3 || op == 17 || op == 18 || op == 22
def insOk (x : VI) : Bool:=decide (1 ≤ x.1.toNat) && decide (x.1.toNat ≤ 23) && (x.2 == 0 || hasArg x.1)
def mayV (texts : List (List UInt8)) (code : List VI) : Bool:=decide (texts.length ≤ 16) && decide (code.length ≤ 256) && texts.all (fun s => decide (s.length ≤ 64)) && code.all insOk
def effs : List (List UInt8 × List UInt8) :=
 [([],[]),([],[84]),([],[78]),([],[84]),([84,84],[84]),([84],[78]),([84,78,78],[84]),([84],[78]),([78],[84]),([78,78],[78]),([78,78],[78]),([78,78],[78]),([84,84],[78]),([78],[78]),
  ([63],[]),([63],[49,49]),([63,63],[50,49]),([],[82]),([82],[]),([78],[]),([],[]),([],[]),([84],[]),([84,84],[])]
def regV (arg : UInt8) : List UInt8:=if 4 ≤ arg.toNat then [84] else [78]
def replV (s r : List UInt8) : List UInt8:=if s = [82] then r else s
def effV (x : VI) : List UInt8 × List UInt8:=(replV (effs.getD x.1.toNat ([],[])).1 (regV x.2),replV (effs.getD x.1.toNat ([],[])).2 (regV x.2))
structure Vb where
 op : UInt8
 want : List UInt8
 opn : List UInt8
 at_ : Nat
 did : Bool
deriving DecidableEq
structure Vs where
 kinds : List UInt8
 blocks : List Vb
 seen : List (List UInt8)
 ends : List Int
 deep : Nat
deriving DecidableEq
def elseBad : Option Vb → Bool
 | none => true
 | some b => b.op != 19 || b.did
def thereV (nt inp : Nat) (role : UInt8) (blocks : List Vb) (x : VI) : Nat :=
 if (x.1 = 1 ∧ nt ≤ x.2.toNat) ∨ (x.1 = 3 ∧ inp ≤ x.2.toNat) ∨ ((x.1 = 17 ∨ x.1 = 18) ∧ 8 ≤ x.2.toNat) then 3
 else if x.1 = 23 ∧ role ≠ 1 then 133
 else if x.1 = 20 ∧ elseBad blocks.getLast? = true then 132
 else if x.1 = 21 ∧ blocks = [] then 132
 else if (x.1 = 19 ∨ x.1 = 22) ∧ 8 ≤ blocks.length then 132 else 0
def fitV : List UInt8 → List UInt8 → Bool
 | [],_ => true
 | _ :: _,[] => false
 | a :: t,b :: u => (a == 63 || a == b) && fitV t u
def givesV (top : List UInt8) (g : List UInt8) : List UInt8:=g.flatMap fun c => if c = 49 then top.take 1 else if c = 50 then (top.drop 1).take 1 else [c]
def valuesV (kinds : List UInt8) (x : VI) : Nat × List UInt8 :=
 if kinds.length < (effV x).1.length then (130,kinds)
 else if fitV (effV x).1 (kinds.drop (kinds.length - (effV x).1.length)) = false then (131,kinds)
 else if (x.1 = 22 ∧ 16 ≤ (kinds.take (kinds.length - (effV x).1.length) ++ givesV (kinds.drop (kinds.length - (effV x).1.length)) (effV x).2).length) ∨ 16 < (kinds.take (kinds.length - (effV x).1.length) ++ givesV (kinds.drop (kinds.length - (effV x).1.length)) (effV x).2).length then (130,kinds)
 else (0,kinds.take (kinds.length - (effV x).1.length) ++ givesV (kinds.drop (kinds.length - (effV x).1.length)) (effV x).2)
def turnsV (i : Nat) (x : VI) (s : Vs) : Nat × Vs :=
 if x.1 = 19 then (0,{ s with blocks:=s.blocks ++ [⟨19,s.kinds,s.kinds,i,false⟩] })
 else if x.1 = 22 then (0,{ s with blocks:=s.blocks ++ [⟨22,s.kinds,s.kinds,i,false⟩],kinds:=s.kinds ++ [84] })
 else if x.1 = 20 then
  match s.blocks.getLast? with
  | none => (0,s)
  | some b => (0,{ s with ends:=s.ends.set b.at_ (i : Int),blocks:=s.blocks.dropLast ++ [{ b with want:=s.kinds,at_:=i,did:=true }],kinds:=b.opn })
 else if x.1 = 21 then
  match s.blocks.getLast? with
  | none => (0,s)
  | some b => if s.kinds = b.want then (0,{ s with ends:=s.ends.set b.at_ (i : Int),blocks:=s.blocks.dropLast }) else (132,s)
 else (0,s)
def oneV (nt inp : Nat) (role : UInt8) (i : Nat) (x : VI) (s : Vs) : Nat × Vs :=
 if thereV nt inp role s.blocks x ≠ 0 then (thereV nt inp role s.blocks x,{ s with seen:=s.seen ++ [s.kinds] })
 else if (valuesV s.kinds x).1 ≠ 0 then ((valuesV s.kinds x).1,{ s with seen:=s.seen ++ [s.kinds] })
 else
  let r:=turnsV i x { s with seen:=s.seen ++ [s.kinds],kinds:=(valuesV s.kinds x).2 }
  (r.1,{ r.2 with deep:=max s.deep r.2.kinds.length })
def wantV (role : UInt8) : List UInt8:=if role = 1 then [] else [84]
def overV (role : UInt8) (s : Vs) : Nat:=if 0 < s.blocks.length then 132 else if s.kinds.length ≠ (wantV role).length then 130 else if s.kinds ≠ wantV role then 131 else 0
def runV (nt inp : Nat) (role : UInt8) : Nat → List VI → Vs → Nat × Nat × Vs
 | i,[],s => (i,overV role s,s)
 | i,x :: r,s => if (oneV nt inp role i x s).1 = 0 then runV nt inp role (i + 1) r (oneV nt inp role i x s).2 else (i,(oneV nt inp role i x s).1,(oneV nt inp role i x s).2)
def startV (n : Nat) : Vs:=⟨[],[],[],List.replicate n 0,0⟩
def inputsV (role : UInt8) : Nat:=if role = 1 then 1 else 2
def roleOk (role : UInt8) : Bool:=decide (1 ≤ role.toNat) && decide (role.toNat ≤ 3)
def throughV (texts : List (List UInt8)) (code : List VI) (role : UInt8) : Nat × Nat × Vs :=
 if (mayV texts code && roleOk role) = true then
  if (runV texts.length (inputsV role) role 0 code (startV code.length)).2.1 = 0 then (0,0,(runV texts.length (inputsV role) role 0 code (startV code.length)).2.2)
  else runV texts.length (inputsV role) role 0 code (startV code.length)
 else (0,2,startV code.length)
end Go.Proofs.YtehllcbnheicoaaGreatDoor
namespace Go.Proofs.YtehllcbnheicoaaGreatDoor.Oct
def bs (l : List UInt8) : ByteArray:=⟨l.toArray⟩
@[simp] theorem bs_data (l : List UInt8) : (bs l).data.toList = l:=by simp [bs]
@[go_sem,simp] theorem bs_size (l : List UInt8) : (bs l).size = l.length:=by simp [bs,ByteArray.size]
theorem bs_of (s : ByteArray) : bs s.data.toList = s:=by simp [bs]
theorem bs_append (a b : List UInt8) : bs a ++ bs b = bs (a ++ b):=by
 apply ByteArray.ext; simp [bs]
def val : List UInt8 → Nat
 | [] => 0
 | c :: l => c.toNat + 256 * val l
def num : Nat → Nat → List UInt8
 | _,0 => []
 | v,n + 1 => UInt8.ofNat (v % 256) :: num (v / 256) n
@[go_sem,simp] theorem num_length : ∀ (n v : Nat),(num v n).length = n
 | 0,_ => rfl
 | n + 1,v => by simp [num,num_length n]
def shortF : Nat → Nat → List UInt8
 | 0,_ => []
 | f + 1,v => if v < 128 then [UInt8.ofNat v] else (UInt8.ofNat (v % 128) + 128) :: shortF f (v / 128)
def short (v : Nat) : List UInt8:=shortF 10 v
end Go.Proofs.YtehllcbnheicoaaGreatDoor.Oct
namespace Go.Proofs.YtehllcbnheicoaaGreatDoor
open Go.RowKit Oct
variable {P : Program}
theorem v_int {k : IntKind} {a b : Int} (h : a = b) : Value.int k a = .int k b:=by rw [h]
@[go_sem] theorem bs_get (l : List UInt8) (k : Nat) (h : k < (bs l).size) : (bs l)[k]'h = l[k]'(by simpa using h):=by
 have e : (bs l)[k]'h = (bs l).data.toList[k]'(by simpa using h):=by simp; rfl
 rw [e]; simp
@[go_sem] theorem bs_extract (l : List UInt8) (a b : Nat) : (bs l).extract a b = bs ((l.drop a).take (b - a)):=by
 rw [Lib.extract_eq,bs_data]; rfl
@[go_sem] theorem take_drop_len (l : List UInt8) (n : Nat) : (l.drop n).take (l.length - n) = l.drop n:=List.take_of_length_le (by simp)
@[go_sem] theorem bs_toList (l : List UInt8) : (bs l).toList = l:=by rw [ByteArray.toList_eq,bs_data]
@[go_sem] theorem mk_toList (a : Array UInt8) : (ByteArray.mk a).toList = a.toList:=by rw [ByteArray.toList_eq]
attribute [go_sem] bs_append
theorem Below.drewN' (w : World) (n : Nat) : Below w.heap.size w (w.drewN n):=⟨rfl,rfl,rfl,Nat.le_refl _,fun _ _ => rfl⟩
def bcells (l : List UInt8) : List Value:=l.map fun c => .int .u8 (c.toNat : Int)
theorem bcells_length (l : List UInt8) : (bcells l).length = l.length:=by simp [bcells]
theorem conv_own (src dst e : TypeId) (hs : P.underlying src = some (.slice e)) (he : P.underlying e = some (.int .u8)) (hd : P.underlying dst = some .string) (w : World) (base : Nat) (v : Value) (n : Nat) (l : List UInt8)
  (h : w.ownsRow base e 1 v n (bcells l)) : (convert src dst v).run P w = .ok (.string (bs l)) w:=by
 obtain ⟨h1,h2⟩:=id h
 rw [bcells_length,Nat.mul_one] at h1
 rcases h2 with ⟨rfl,h3⟩ | ⟨g,cap,cur,rfl,hg,hh,hc⟩
 ·have : l = []:=List.eq_nil_of_length_eq_zero (by omega)
  subst this
  exact run_convert_bytes_nil w src e hs he 0 0 dst hd
 ·subst h1
  refine run_convert_bytes_back w src dst e ⟨g,0,none⟩ cap l hs he hd (fun j hj => ?_)
  have hx:=World.ownsRow.cells h (g:=g) rfl j (.int .u8 (l[j].toNat : Int)) (by simp [bcells,List.getElem?_eq_getElem hj])
  exact hx
theorem append1 {ops : Array Oper} {rest : List Oper} {o : Oper} {a : Act} {Q : Exit → Act → World → Prop} (wr : World) (news : List Value) (e : TypeId) (hgd : o.guard = none) (s x : Operand) (t : TypeId)
  (ho : o.op = .call { callee:=.builtin .append,args:=#[s,x],argTypes:=#[t,t] })
  (base : Nat) (z : Value) (size bytes : Nat) (ht : P.underlying t = some (.slice e)) (hinfo : (P.info? e).map (fun i => (i.zero,i.size,i.bytes)) = some (some z,size,bytes))
  (hzs : z.cells.size = size) (hsz : 0 < size) (v : Value) (n : Nat) (xs : List Value) (hs : a.eval s = v) (hown : wr.ownsRow base e size v n xs)
  (c : Nat) (hx : a.eval x = .slice (some ⟨wr.heap.size,0,none⟩) 1 c) (hl : news.length = size) (h1 : ∀ u ∈ news,u.oneCell' = true)
  (hbytes : (n + 1) * bytes ≤ 140737488355328) (hby : 0 < bytes) (hbase : base ≤ wr.heap.size)
  (h : ∀ v' w',w'.ownsRow base e size v' (n + 1) (xs ++ news) → Below base wr w' → wpList P ops Q rest (a.put o.dst v') w') : wpList P ops Q (o :: rest) a (wr.alloc (.cells news.toArray e)):=by
 obtain ⟨i,hi,hz,hi1,hi2⟩:=info_parts hinfo
 have hn : n + 1 ≤ (n + 1) * bytes:=Nat.le_mul_of_pos_right _ hby
 refine wpList_append_own _ hgd s x t ho base e i z size bytes ht hi hz hi1 hi2 hzs hsz v n xs hs (hown.alloc _) ⟨wr.heap.size,0,none⟩ 1 c news hx (by simpa using hl) ?_ h1 (by unfold maxLen; omega) hbytes (by simp; omega) ?_
 ·intro j u hj
  have : j < news.length:=by
   rcases Nat.lt_or_ge j news.length with h | h
   ·exact h
   ·simp [List.getElem?_eq_none h] at hj
  rw [Addr.add_lit,Nat.zero_add,World.cell?_alloc_new]
  simpa using hj
 ·intro v' w' h2 h3 _
  refine h v' w' h2 (((Below.refl base wr).alloc hbase _).grown h3 (by simp; omega) ?_)
  intro k hk
  exact (hown.lt k hk).1
theorem step_append1 {ops : Array Oper} {o : Oper} {a : Act} {K : Act → World → Prop} {Q : Exit → Act → World → Prop} {E : Prop} (wr : World) (news : List Value) (e : TypeId) (hgd : o.guard = none) (s x : Operand) (t : TypeId)
  (ho : o.op = .call { callee:=.builtin .append,args:=#[s,x],argTypes:=#[t,t] })
  (base : Nat) (z : Value) (size bytes : Nat) (ht : P.underlying t = some (.slice e)) (hinfo : (P.info? e).map (fun i => (i.zero,i.size,i.bytes)) = some (some z,size,bytes))
  (hzs : z.cells.size = size) (hsz : 0 < size) (v : Value) (n : Nat) (xs : List Value) (hs : a.eval s = v) (hown : wr.ownsRow base e size v n xs)
  (c : Nat) (hx : a.eval x = .slice (some ⟨wr.heap.size,0,none⟩) 1 c) (hl : news.length = size) (h1 : ∀ u ∈ news,u.oneCell' = true)
  (hbytes : (n + 1) * bytes ≤ 140737488355328) (hby : 0 < bytes) (hbase : base ≤ wr.heap.size)
  (h : ∀ g cap w',w'.ownsRow base e size (.slice (some ⟨g,0,none⟩) (n + 1) cap) (n + 1) (xs ++ news) → Below base wr w' → K (a.put o.dst (.slice (some ⟨g,0,none⟩) (n + 1) cap)) w') :
  if Region.wanted o (yielded ops a.tmps) = true then Oper.wp P o a (wr.alloc (.cells news.toArray e)) K Q else E:=by
 obtain ⟨i,hi,hz,hi1,hi2⟩:=info_parts hinfo
 have hn : n + 1 ≤ (n + 1) * bytes:=Nat.le_mul_of_pos_right _ hby
 refine step_append_lies _ hgd s x t ho base e i z size bytes ht hi hz hi1 hi2 hzs hsz v n xs hs (hown.alloc _) ⟨wr.heap.size,0,none⟩ 1 c news hx (by simpa using hl) ?_ h1 (by decide) (by unfold maxLen; omega) hbytes (by simp; omega) _ rfl ?_
 ·intro j u hj
  have : j < news.length:=by
   rcases Nat.lt_or_ge j news.length with h | h
   ·exact h
   ·simp [List.getElem?_eq_none h] at hj
  rw [Addr.add_lit,Nat.zero_add,World.cell?_alloc_new]
  simpa using hj
 ·intro g cap w' h2 h3 _ _
  refine h g cap w' h2 (((Below.refl base wr).alloc hbase _).grown h3 (by simp; omega) ?_)
  intro k hk
  exact (hown.lt k hk).1
theorem ownsRow_below {w w' : World} {base : Nat} {e : TypeId} {size : Nat} {v : Value} {n : Nat} {xs : List Value} (h : w.ownsRow base e size v n xs) (hB : Below w.heap.size w w') : w'.ownsRow base e size v n xs:=by
 obtain ⟨h1,h2⟩:=h
 refine ⟨h1,?_⟩
 rcases h2 with h2 | ⟨g,cap,cur,hv,hg,hh,r⟩
 ·exact Or.inl h2
 ·have hlt : g < w.heap.size:=by
   rcases Nat.lt_or_ge g w.heap.size with h | h
   ·exact h
   ·simp [Array.getElem?_eq_none h] at hh
  exact Or.inr ⟨g,cap,cur,hv,hg,(hB.block g hlt).trans hh,r⟩
theorem bt {a b c : World} (h : Below a.heap.size a b) (k : Below b.heap.size b c) : Below a.heap.size a c:=h.trans (k.mono h.size)
theorem b_alloc (w : World) (o : Obj) : Below w.heap.size w (w.alloc o):=(Below.refl _ _).alloc (Nat.le_refl _) _
theorem b_drew (w : World) : Below w.heap.size w w.drew:=(Below.refl _ _).drew
theorem b_refl (w : World) : Below w.heap.size w w:=Below.refl _ _
theorem owns_slice {w : World} {base : Nat} {e : TypeId} {size : Nat} {v : Value} {n : Nat} {xs : List Value} (h : w.ownsRow base e size v n xs) : ∃ a cap,v = .slice a n cap:=by
 rcases h.2 with ⟨hv,h0⟩ | ⟨g,cap,cur,hv,_⟩
 ·exact ⟨none,0,by rw [hv,h0]⟩
 ·exact ⟨_,_,hv⟩
theorem owns_mono {w : World} {base base' : Nat} {e : TypeId} {size : Nat} {v : Value} {n : Nat} {xs : List Value} (h : w.ownsRow base e size v n xs) (hb : base' ≤ base) : w.ownsRow base' e size v n xs:=by
 obtain ⟨h1,h2⟩:=h
 refine ⟨h1,?_⟩
 rcases h2 with h2 | ⟨g,cap,cur,hv,hg,r⟩
 ·exact .inl h2
 ·exact .inr ⟨g,cap,cur,hv,Nat.le_trans hb hg,r⟩
theorem two_new (w : World) (o p : Obj) : ((w.alloc o).alloc p).heap[w.heap.size]? = some o ∧ ((w.alloc o).alloc p).heap[w.heap.size + 1]? = some p ∧ Below w.heap.size w ((w.alloc o).alloc p):=by
 refine ⟨?_,?_,((Below.refl _ _).alloc (Nat.le_refl _) _).alloc (by simp) _⟩
 ·show ((w.heap.push o).push p)[w.heap.size]? = some o
  simp [Array.getElem?_push]
 ·show ((w.heap.push o).push p)[w.heap.size + 1]? = some p
  rw [Array.getElem?_push,if_pos (by simp)]
def Reads (w : World) (v : Value) (n : Nat) (xs : List Value) : Prop :=
 ∃ a cap,v = .slice a n cap ∧ (a = none → n = 0 ∧ cap = 0) ∧ ∀ j u,xs[j]? = some u → ∃ b off,a = some ⟨b,off,none⟩ ∧ w.cell? ⟨b,off + j,none⟩ = some u
theorem lt_of_cell {w : World} {a : Addr} {u : Value} (h : w.cell? a = some u) : a.block < w.heap.size:=World.block_lt_of_cell? w a h
theorem Below.keeps {w w' : World} (hB : Below w.heap.size w w') {a : Addr} {u : Value} (h : w.cell? a = some u) : w'.cell? a = some u :=
 (hB.cell (p:=a) (lt_of_cell h)).trans h
theorem Reads.below {w w' : World} {v : Value} {n : Nat} {xs : List Value} (h : Reads w v n xs) (hB : Below w.heap.size w w') : Reads w' v n xs:=by
 obtain ⟨a,cap,hv,hn,hc⟩:=h
 exact ⟨a,cap,hv,hn,fun j u hj => by obtain ⟨b,off,ha,hu⟩:=hc j u hj; exact ⟨b,off,ha,Below.keeps hB hu⟩⟩
theorem Reads.owned {w : World} {base : Nat} {e : TypeId} {size : Nat} {v : Value} {n : Nat} {xs : List Value} (h : w.ownsRow base e size v n xs) : Reads w v n xs:=by
 rcases id h.2 with ⟨hv,h0⟩ | ⟨g,cap,cur,hv,_⟩
 ·refine ⟨none,0,by rw [hv,h0],fun _ => ⟨h0,rfl⟩,fun j u hj => ?_⟩
  have:=h.1
  rw [h0,Nat.zero_mul] at this
  rw [List.eq_nil_of_length_eq_zero this] at hj
  simp at hj
 ·refine ⟨some ⟨g,0,none⟩,cap,hv,(by simp),fun j u hj => ⟨g,0,rfl,?_⟩⟩
  have:=World.ownsRow.cells h (g:=g) (by rw [hv]; rfl) j u hj
  rwa [Addr.add_lit] at this
theorem Reads.nil (w : World) : Reads w (.slice none 0 0) 0 []:=⟨none,0,rfl,fun _ => ⟨rfl,rfl⟩,fun j u hj => by simp at hj⟩
theorem Reads.new (w : World) (xs : List Value) (n : Nat) (e : TypeId) (c : Nat) : Reads (w.alloc (.cells xs.toArray e)) (.slice (some ⟨w.heap.size,0,none⟩) n c) n xs :=
 ⟨_,_,rfl,(by simp),fun j u hj => ⟨_,_,rfl,by rw [Nat.zero_add,World.cell?_alloc_new]; simpa using hj⟩⟩
theorem appendN {ops : Array Oper} {rest : List Oper} {o : Oper} {a : Act} {Q : Exit → Act → World → Prop} (w : World) (news : List Value) (e : TypeId) (hgd : o.guard = none) (s x : Operand) (t : TypeId)
  (ho : o.op = .call { callee:=.builtin .append,args:=#[s,x],argTypes:=#[t,t] })
  (base : Nat) (z : Value) (size bytes : Nat) (ht : P.underlying t = some (.slice e)) (hinfo : (P.info? e).map (fun i => (i.zero,i.size,i.bytes)) = some (some z,size,bytes))
  (hzs : z.cells.size = size) (hsz : 0 < size) (v : Value) (n : Nat) (xs : List Value) (hs : a.eval s = v) (hown : w.ownsRow base e size v n xs)
  (vx : Value) (m : Nat) (hx : a.eval x = vx) (hr : Reads w vx m news) (hl : news.length = m * size) (h1 : ∀ u ∈ news,u.oneCell' = true)
  (hbytes : (n + m) * bytes ≤ 140737488355328) (hby : 0 < bytes) (hbase : base ≤ w.heap.size)
  (h : ∀ v' w',w'.ownsRow base e size v' (n + m) (xs ++ news) → Below base w w' → wpList P ops Q rest (a.put o.dst v') w') : wpList P ops Q (o :: rest) a w:=by
 obtain ⟨i,hi,hz,hi1,hi2⟩:=info_parts hinfo
 have hn : n + m ≤ (n + m) * bytes:=Nat.le_mul_of_pos_right _ hby
 obtain ⟨ax,cap,rfl,hnone,hc⟩:=hr
 cases ax with
 | none =>
  obtain ⟨rfl,rfl⟩:=hnone rfl
  have hnil : news = []:=List.eq_nil_of_length_eq_zero (by simpa using hl)
  subst hnil
  refine wpList_append_own_none hgd s x t ho base e i size ht hi v n xs hs hown hx ?_
  have:=h v w (by simpa using hown) (Below.refl _ _)
  exact this
 | some ad =>
  refine wpList_append_own _ hgd s x t ho base e i z size bytes ht hi hz hi1 hi2 hzs hsz v n xs hs hown ad m cap news hx hl ?_ h1 (by unfold maxLen; omega) hbytes hbase ?_
  ·intro j u hj
   obtain ⟨b,off,ha,hu⟩:=hc j u hj
   cases ha
   rw [Addr.add_lit]; exact hu
  ·intro v' w' h2 h3 _
   refine h v' w' h2 ((Below.refl base w).grown h3 hbase ?_)
   intro k hk
   exact (hown.lt k hk).1
def tcells (r : List (List UInt8)) : List Value:=r.map fun l => .string (bs l)
theorem tcells_snoc (r : List (List UInt8)) (l : List UInt8) : tcells r ++ [.string (bs l)] = tcells (r ++ [l]):=by simp [tcells]
end Go.Proofs.YtehllcbnheicoaaGreatDoor
namespace Go.Proofs.YtehllcbnheicoaaGreatDoor
open Go.RowKit Oct
theorem infoU8 : (Tryz.prog.info? 5).map (fun i => (i.zero,i.size,i.bytes)) = some (some (.int .u8 0),1,1):=by kernel_rfl
def cb (v k : Nat) : Array Value:=((num v k).map (fun c => Value.int .u8 (c.toNat : Int)) ++ List.replicate (8 - k) (Value.int .u8 0)).toArray
end Go.Proofs.YtehllcbnheicoaaGreatDoor
