/-
  Part of the proof: the machine that runs a program by fixed orders, and that each of its runs is a run of the model; or a run of it in parts. No conditions.
-/
import Derived.Test.YtfnfimeefeigdaaGreatDoorIdIop
import Derived.Test.YtfnfimeefeigdaaGreatDoorIdVec
import Derived.Laws.StructEq
noncomputable section
namespace Go.AD
inductive VT where
 | fail
 | ret (v:Value) (H:AA)
 | test (c:Bool) (a b:VT)
def VT.run:VT->Option (Value × AA)
 | .fail=>none
 | .ret v H=>some (v,H)
 | .test c a b=>bif c then a.run else b.run
deriving instance DecidableEq for SK
abbrev J4:EK:=[.int .u8]
def B1 (s:As):Ad:=s.data.toList.map fun b=>(b.toNat:Int)
def B4 (s:As) (i:Nat):Int:=((s.data.toList.getD i 0).toNat:Int)
def Fy (l:Ad):As:=⟨⟨l.map fun n=>UInt8.ofNat n.toNat⟩⟩
def XF:TypeDesc->Bool
 | .slice _=>true
 | _=>false
def jT:Value->Bool
 | .slice _ _ _=>true
 | _=>false
def pw:Value->Option Addr
 | .slice a _ _=>a
 | _=>none
def qL:Value->Nat
 | .slice _ n _=>n
 | _=>0
def qQ:Value->Nat
 | .slice _ _ c=>c
 | _=>0
theorem aK {v:Value} (h:jT v=true): .slice (pw v) (qL v) (qQ v)=v:=by
 cases v<;>first | rfl | cases h
def Jq (P:Program) (t:TypeId) (b o i:Nat) (H:AA):VT:=
 match H.get b with
 | some (.vec k l _)=>
  match P.underlying t,Dx P t with
  | some d,some n=>
   bif Nat.ble (o+n) k.length then
    bif E4 d then .test (Nat.blt i l.length) (.ret (.agg ⟨((EK.enc k (l.getD i (EK.BL k))).drop o).take n⟩) H) .fail
    else match (EK.enc k (l.getD i (EK.BL k)))[o]? with
     | some v=>bif XF d then .test (Nat.blt i l.length&&jT v) (.ret (.slice (pw v) (qL v) (qQ v)) H) .fail else .test (Nat.blt i l.length) (.ret v H) .fail
     | none=> .fail
   else .fail
  | _,_=> .fail
 | _=> .fail
def R3 (P:Program) (t:TypeId) (b o i:Nat) (x:Value) (H:AA):VT:=
 match H.get b with
 | some (.vec k l false)=>
  match Dx P t with
  | some n=>
   bif Nat.beq x.cells.toList.length n&&x.cells.toList.all Bh&&Nat.ble (o+x.cells.toList.length) k.length then
    match EK.dec k (Bi (EK.enc k (l.getD i (EK.BL k))) o x.cells.toList)with
    | some e=> .test (Nat.blt i l.length) (.ret Go.undef (H.put b (.vec k (l.set i e) false))) .fail
    | none=> .fail
   else .fail
  | none=> .fail
 | _=> .fail
def MN (P:Program) (t:TypeId) (b o i:Nat) (H:AA):VT:= .test (Nat.blt o Aa) (Jq P t b o i H) .fail
def Zs (P:Program) (t:TypeId) (b o i:Nat) (x:Value) (H:AA):VT:= .test (Nat.blt o Aa) (R3 P t b o i x H) .fail
def F8 (P:Program) (t:TypeId) (b j n:Nat) (ix:Value) (H:AA):VT:=
 match ix with
 | .int _ m=>
  match P.underlying t,H.get b with
  | some (.slice e),some (.vec k _ _)=>
   match Dx P e with
   | some sz=>bif Nat.beq sz k.length then .test (decide (0<=m)&&Nat.blt m.toNat n) (.ret (.pointer (some ⟨b,0,some (j+m.toNat)⟩)) H) .fail else .fail
   | none=> .fail
  | _,_=> .fail
 | _=> .fail
def Gd (P:Program) (t:TypeId) (b j:Nat) (ix:Value) (H:AA):VT:=
 match ix with
 | .int _ m=>
  match P.underlying t,H.get b with
  | some (.array n e),some (.vec k _ _)=>
   match Dx P e with
   | some sz=>bif Nat.beq sz k.length then .test (decide (0<=m)&&Nat.blt m.toNat n) (.ret (.pointer (some ⟨b,0,some (j+m.toNat)⟩)) H) .fail else .fail
   | none=> .fail
  | _,_=> .fail
 | _=> .fail
def FK (P:Program) (s:TypeId) (b o i k:Nat) (H:AA):VT:=
 match P.underlying s with
 | some (.struct fields)=>
  match fields.toList[k]? with
  | some f=>match Dx P f.type with
   | some n=>bif Nat.beq n 0 then .fail else .test (Nat.blt (o+f.offset) Aa) (.ret (.pointer (some ⟨b,o+f.offset,some i⟩)) H) .fail
   | none=> .fail
  | none=> .fail
 | _=> .fail
def Ik (P:Program) (s:TypeId) (b o i k:Nat) (H:AA):VT:= .test (Nat.blt o Aa) (FK P s b o i k H) .fail
def LU:C1->Nat->Option Int
 | none,d=>some (Int.ofNat d)
 | some (.int _ n),_=>some n
 | some _,_=>none
def Gn (P:Program) (t:TypeId) (s:As) (lo hi:C1) (H:AA):VT:=
 match P.underlying t,LU lo 0,LU hi s.size with
 | some .string,some l,some h=> .test (decide (0<=h)&&Nat.ble h.toNat s.size&&decide (0<=l)&&Nat.ble l.toNat h.toNat) (.ret (.string (s.extract l.toNat h.toNat)) H) .fail
 | _,_,_=> .fail
def LD (P:Program) (t:TypeId) (b j n c:Nat) (lo hi:C1) (H:AA):VT:=
 match P.underlying t,H.get b,LU lo 0,LU hi n with
 | some (.slice e),some (.vec k _ _),some l,some h=>
  match Dx P e with
  | some sz=>bif Nat.beq sz k.length&&Nat.beq c Aa then
   .test (decide (0<=h)&&Nat.ble h.toNat n&&decide (0<=l)&&Nat.ble l.toNat h.toNat) (.ret (.slice (some ⟨b,0,some (j+l.toNat)⟩) (h.toNat - l.toNat) Aa) H) .fail
   else .fail
  | none=> .fail
 | _,_,_,_=> .fail
def JK (P:Program) (t:TypeId) (b j n c:Nat) (lo hi:C1) (mx:Value) (H:AA):VT:=
 match P.underlying t,H.get b,LU lo 0,hi,mx with
 | some (.slice e),some (.vec k _ _),some l,some (.int _ h),.int _ m=>
  match Dx P e with
  | some sz=>bif Nat.beq sz k.length&&Nat.beq c Aa then
   .test (decide (0<=m)&&Nat.ble m.toNat n&&Nat.blt m.toNat Aa&&decide (0<=h)&&Nat.ble h.toNat m.toNat&&decide (0<=l)&&Nat.ble l.toNat h.toNat) (.ret (.slice (some ⟨b,0,some (j+l.toNat)⟩) (h.toNat - l.toNat) Aa) H) .fail
   else .fail
  | none=> .fail
 | _,_,_,_,_=> .fail
def QV (k:EK):Nat->AL->Option (List (EK.C k))
 | 0,_=>some []
 | n+1,cs=>match EK.dec k (cs.take k.length),QV k n (cs.drop k.length)with
  | some x,some l=>some (x::l)
  | _,_=>none
def sD (k:EK) (x:Value) (H:AA):Option (Bool × Nat × List (EK.C k)):=
 match x with
 | .slice none n _=>bif Nat.beq n 0 then some (true,0,[])else none
 | .slice (some ⟨b,0,some j⟩) n _=>
  match H.get b with
  | some (.vec k' l _)=>if h:k'=k then some (Nat.ble (j+n) l.length,n,((h ▸ l:List (EK.C k)).drop j).take n)else none
  | _=>none
 | .slice (some ⟨b,o,none⟩) n c=>
  match EM k.length (.slice (some ⟨b,o,none⟩) n c) H with
  | some (m,cs)=>match QV k m cs with
   | some l=>some (true,m,l)
   | none=>none
  | none=>none
 | .string s=>match k with
  | [.int .u8]=>some (true,s.size,B1 s)
  | _=>none
 | _=>none
def BQ (bytes m:Nat):Bool:=Nat.ble ((2 * m+192) * bytes) 281474976710656&&Nat.ble m 4611686018427387904
def WV (k:EK) (bytes:Nat) (s:Value) (c:Bool) (n:Nat) (new:List (EK.C k)) (H:AA):Option VT:=
 match s with
 | .slice none len cap=>bif Nat.beq len 0&&Nat.beq cap 0 then
  some (.test c (.test (Nat.beq n 0) (.ret (.slice none 0 0) H) (.test (BQ bytes n) (.ret (.slice (some ⟨H.next,0,some 0⟩) n Aa) (H.alloc (.vec k new false))) .fail)) .fail)
  else some .fail
 | .slice (some ⟨b,0,some j⟩) len cap=>
  match H.get b with
  | some (.vec k' l false)=>bif Nat.beq cap Aa then if h:k'=k then
   some (.test (c&&Nat.ble (j+len) l.length&&BQ bytes (len+n))
    (.ret (.slice (some ⟨H.next,0,some 0⟩) (len+n) Aa) ((H.del b).alloc (.vec k (((h ▸ l:List (EK.C k)).drop j).take len++new) false))) .fail)
   else some .fail else some .fail
  | _=>some .fail
 | .slice (some ⟨b,off,none⟩) len cap=>
  match H.get b with
  | some (.cells cs e false)=>
   match QV k len ((cs.drop off).take (len * k.length))with
   | some GK=>
    bif Nat.blt cap Aa then
     bif Nat.beq len cap then some (.test c (.test (Nat.beq n 0) (.ret s H) (.test (BQ bytes (len+n)) (.ret (.slice (some ⟨H.next,0,some 0⟩) (len+n) Aa) (H.alloc (.vec k (GK++new) false))) .fail)) .fail)
     else none
    else bif Nat.beq e k.length then
     some (.test (c&&BQ bytes (len+n)) (.ret (.slice (some ⟨H.next,0,some 0⟩) (len+n) Aa) ((H.del b).alloc (.vec k (GK++new) false))) .fail)
    else some .fail
   | none=>some .fail
  | _=>some .fail
 | _=>some .fail
def SK.plain:SK->Bool
 | .tok=>false
 | _=>true
def isRow:Value->Bool
 | .slice (some ⟨_,_,some _⟩) _ _=>true
 | _=>false
def isStr:Value->Bool
 | .string _=>true
 | _=>false
def II (P:Program) (t:TypeId):Bool:=
 match P.underlying t with
 | some (.slice e)=>match P.underlying e,kindOf P 4 e,IX P e with
  | some (.int .u8),some [.int .u8],some [.int .u8 0]=>match P.info? e with
   | some i=>Nat.beq i.size 1&&Nat.beq i.bytes 1
   | none=>false
  | _,_,_=>false
 | _=>false
def qN:Value->Bool
 | .slice (some _) n _=>Nat.beq n 2
 | _=>false
def qS:Value->Bool
 | .slice (some _) n _=>Nat.beq n 1
 | _=>false
def yo (P:Program) (t:TypeId):Bool:=
 match P.underlying t with
 | some (.slice e)=>match kindOf P 4 e with
  | some [.int .i64,.int .i64,.int .i64,.str,.str]=>true
  | _=>false
 | _=>false
def isNil:Value->Bool
 | .slice none _ _=>true
 | _=>false
def wj (P:Program) (e:TypeId):Option EK:=
 match kindOf P 4 e with
 | some k=>some k
 | none=>match P.underlying e with
  | some (.slice _)=>some [.tok]
  | some (.struct fs)=>match fs.toList with
   | [a,b]=>match P.underlying a.type,P.underlying b.type with
    | some .string,some (.slice _)=>some [.str,.tok]
    | _,_=>none
   | _=>none
  | _=>none
def zj (P:Program) (sT xT:TypeId) (s x:Value):Option Int:=
 match s,x with
 | .slice none _ _,.int _ n=>bif II P sT&&ZS (P.underlying xT)then some n else none
 | _,_=>none
def R0 (P:Program) (argTypes:Array TypeId) (args:AL) (H:AA):Option VT:=
 match argTypes.toList,args with
 | [sT,xT],[s,x]=>
  match zj P sT xT s x with
  | some n=>WV J4 1 s (decide (0<=n)&&decide (n<=140737488355328)) n.toNat (List.replicate n.toNat (0:Int)) H
  | none=>
  bif isRow s||isRow x||isStr x||(isNil s&&qN x&&II P sT)||(isNil s&&qS x&&yo P sT)then
   match P.underlying sT with
   | some (.slice e)=>
    match P.info? e,IX P e,wj P e with
    | some i,some z,some k=>
     bif DM (P.underlying xT)&&Nat.beq z.length i.size&&Nat.beq k.length i.size&& !(Nat.beq k.length 0)then
      match sD k x H with
      | some (c,n,new)=>bif k.all SK.plain||(!isRow x&&(Ag k new).all Bh)then WV k i.bytes s c n new H
       else bif isRow x then(match WV k i.bytes s c n new H with
        | some t=>some (.test ((Ag k new).all Bh) t .fail)
        | none=>none)else some .fail
      | none=>some .fail
     else some .fail
    | _,_,_=>some .fail
   | _=>some .fail
  else none
 | _,_=>none
def FH (P:Program) (src dst:TypeId) (x:Value) (H:AA):Option VT:=
 match x with
 | .slice (some ⟨b,0,some j⟩) n _=>
  some (match P.underlying src,P.underlying dst,H.get b with
  | some (.slice e),some .string,some (.vec [.int .u8] l _)=>
   match P.underlying e with
   | some (.int .u8)=> .test (Nat.ble (j+n) l.length) (.ret (.string (Fy ((l.drop j).take n))) H) .fail
   | _=> .fail
  | _,_,_=> .fail)
 | .string s=>
  match P.underlying src,P.underlying dst with
  | some .string,some (.slice e)=>
   match P.underlying e with
   | some (.int .u8)=>some (.ret (.slice (some ⟨H.next,0,some 0⟩) s.size Aa) (H.alloc (.vec J4 (B1 s) false)))
   | _=>none
  | _,_=>none
 | _=>none
def Yg (it:Value) (isString:Bool) (H:AA):Option VT:=
 match it,isString with
 | .pointer (some ⟨r,0,none⟩),true=>
  match H.get r with
  | some (.Ca s pos)=>
   some (.test (Nat.blt pos s.size)
    (.ret (.tuple ⟨[.bool true,.int .i64 (Int.ofNat pos),.int .i32 (Utf8.decode s pos).1]⟩) (H.put r (.Ca s (pos+(Utf8.decode s pos).2))))
    (.ret (.tuple ⟨[.bool false]⟩) H))
  | _=>none
 | _,_=>none
def Gi (P:Program) (t:TypeId) (s:As) (ix:Value) (H:AA):VT:=
 match P.underlying t,ix with
 | some .string,.int _ m=> .test (decide (0<=m)&&Nat.blt m.toNat s.size) (.ret (.int .u8 (B4 s m.toNat)) H) .fail
 | _,_=> .fail
def aY:Value->Bool
 | .int .u32 _=>true
 | _=>false
def kn:Value->Int
 | .int _ n=>n
 | _=>0
def ES (P:Program) (t:TypeId) (cs:AL) (ix:Value) (H:AA):Option VT:=
 match P.underlying t,ix with
 | some (.array n e),.int _ m=>
  match P.underlying e,Dx P e with
  | some (.int .u32),some sz=>bif Nat.beq sz 1 then some (.test (decide (0<=m)&&Nat.blt m.toNat n&&aY (cs.getD m.toNat Bv)) (.ret (.int .u32 (kn (cs.getD m.toNat Bv))) H) .fail)else none
  | _,_=>none
 | _,_=>none
def NM (op:BinOp) (x y:Value) (H:AA):Option VT:=
 match op,x,y with
 | .quo,.int k a,.int k' b=>bif decide (k=k')then some (.test (decide (b≠0)) (.ret (.int k (k.wrap (a.tdiv b))) H) .fail)else none
 | .rem,.int k a,.int k' b=>bif decide (k=k')then some (.test (decide (b≠0)) (.ret (.int k (a.tmod b)) H) .fail)else none
 | .shl,.int k a,.int _ b=>some (.test (decide (0<=b)) (.ret (.int k (k.wrap (a * 2 ^ (min b.toNat k.bits)))) H) .fail)
 | .shr,.int k a,.int _ b=>some (.test (decide (0<=b)) (.ret (.int k (a.fdiv (2 ^ (min b.toNat k.bits)))) H) .fail)
 | .add,.string a,.string b=>some (.test (Nat.ble (a.size+b.size) 9223372036854775807) (.ret (.string (a++b)) H) .fail)
 | _,_,_=>none
def dW (P:Program):List Field->AL->AL->Option Bool
 | [],_,_=>some true
 | f::fs,xs,ys=>
  bif f.name== "_" then none else
  match P.underlying f.type,xs[f.offset]?,ys[f.offset]?,dW P fs xs ys with
  | some (.int _),some (.int k a),some (.int k' b),some r=>bif decide (k=k')then some ((a==b)&&r)else none
  | some .bool,some (.bool a),some (.bool b),some r=>some ((a==b)&&r)
  | some .string,some (.string a),some (.string b),some r=>some ((a.toList==b.toList)&&r)
  | _,_,_,_=>none
def Zf (P:Program) (op:BinOp) (t:TypeId) (x y:Value):C1:=
 match op,x,y with
 | .eql,.agg xs,.agg ys=>match P.underlying t with
  | some (.struct fs)=>bif !P.stoodInHeld t&& !P.eqGuardType P.depth t then(dW P fs.toList xs.toList ys.toList).map .bool else none
  | _=>none
 | .neq,.agg xs,.agg ys=>match P.underlying t with
  | some (.struct fs)=>bif !P.stoodInHeld t&& !P.eqGuardType P.depth t then(dW P fs.toList xs.toList ys.toList).map fun b=> .bool (!b)else none
  | _=>none
 | _,_,_=>none
def kt (P:Program) (op:BinOp) (t:TypeId) (x y:Value):Option (Bool × Bool):=
 match op,x,y with
 | .eql,.slice (some ⟨_,_,some _⟩) n _,.slice none _ _=>match P.underlying t with
  | some (.slice _)=>some (Nat.blt 0 n,false)
  | _=>none
 | .neq,.slice (some ⟨_,_,some _⟩) n _,.slice none _ _=>match P.underlying t with
  | some (.slice _)=>some (Nat.blt 0 n,true)
  | _=>none
 | _,_,_=>none
def Jb (P:Program) (op:BinOp) (t:TypeId) (x y:Value) (H:AA):Option VT:=
 match Zf P op t x y with
 | some v=>some (.ret v H)
 | none=>match kt P op t x y with
  | some (c,r)=>some (.test c (.ret (.bool r) H) .fail)
  | none=>NM op x y H
def Yx (_:Program) (_:TypeId):Option TypeId:=none
def Tt (P:Program) (t:TypeId) (H:AA):Option VT:=
 match Yx P t with
 | some e=>some (.ret (.pointer (some ⟨H.next,0,none⟩)) (H.alloc (.abs (.eg t e []) false)))
 | none=>none
def UM (P:Program) (t:TypeId) (len cap:Value) (H:AA):Option VT:=
 bif II P t then
  match len,cap with
  | .int .u8 n,.int .u8 c=>some (.test (decide (0<=n)&&decide (n<=c)&&decide (c<=140737488355328)) (.ret (.slice (some ⟨H.next,0,some 0⟩) n.toNat Aa) (H.alloc (.vec J4 (List.replicate n.toNat 0) false))) .fail)
  | .int _ (.ofNat 0),.int _ c=>some (.test (decide (0<=c)&&decide (c<=140737488355328)) (.ret (.slice (some ⟨H.next,0,some 0⟩) 0 Aa) (H.alloc (.vec J4 [] false))) .fail)
  | _,_=>none
 else none
def YA (P:Program) (t:TypeId) (x:Value) (k:IntKind) (m:Int) (H:AA):Nat->VT
 | 0=> .fail
 | j+1=>match GW P t x (.int k (.ofNat j))with
  | some p=> .test (m== .ofNat j) (.ret p H) (YA P t x k m H j)
  | none=> .fail
def Mn (P:Program) (t:TypeId) (x ix:Value) (H:AA):Option VT:=
 match x,ix with
 | .slice (some ⟨_,_,none⟩) n _,.int k m=>bif Nat.ble n 12 then some (YA P t x k m H n)else none
 | _,_=>none
def Um (P:Program) (argTypes:Array TypeId) (args:AL) (H:AA):Option VT:=
 match argTypes.toList,args with
 | t::_,[.slice (some ⟨b,0,some j⟩) n _]=>
  match P.underlying t,H.get b with
  | some (.slice e),some (.vec k l false)=>
   match IX P e with
   | some z=>
    match EK.dec k z with
    | some x=>bif Nat.beq z.length k.length&&z.all Bh then some (.test (Nat.beq n 0) (.ret Go.undef H) (.test (Nat.ble (j+n) l.length) (.ret Go.undef (H.put b (.vec k (l.take j++(List.replicate n x++l.drop (j+n))) false))) .fail))else some .fail
    | none=>some .fail
   | none=>some .fail
  | _,_=>some .fail
 | _,_=>none
def Uu (P:Program) (ρ:Operand->Value) (o:Oper) (H:AA):Option VT:=
 match o.op with
 | .load t a=>match ρ a with
  | .pointer (some ⟨b,o,some i⟩)=>some (MN P t b o i H)
  | _=>none
 | .store t a x=>match ρ a with
  | .pointer (some ⟨b,o,some i⟩)=>some (Zs P t b o i (ρ x) H)
  | _=>none
 | .indexAddr t x i=>match ρ x with
  | .slice (some ⟨b,0,some j⟩) n _=>some (F8 P t b j n (ρ i) H)
  | .pointer (some ⟨b,0,some j⟩)=>some (Gd P t b j (ρ i) H)
  | _=>Mn P t (ρ x) (ρ i) H
 | .index t x i=>match ρ x with
  | .string s=>some (Gi P t s (ρ i) H)
  | .agg xs=>ES P t xs.toList (ρ i) H
  | _=>none
 | .fieldAddr s x k=>match ρ x with
  | .pointer (some ⟨b,o,some i⟩)=>some (Ik P s b o i k H)
  | _=>none
 | .slice t x lo hi none=>match ρ x with
  | .string s=>some (Gn P t s (lo.map ρ) (hi.map ρ) H)
  | .slice (some ⟨b,0,some j⟩) n c=>some (LD P t b j n c (lo.map ρ) (hi.map ρ) H)
  | _=>none
 | .slice t x lo hi (some m)=>match ρ x with
  | .slice (some ⟨b,0,some j⟩) n c=>some (JK P t b j n c (lo.map ρ) (hi.map ρ) (ρ m) H)
  | _=>none
 | .next it s=>Yg (ρ it) s H
 | .binOp op t x y _=>Jb P op t (ρ x) (ρ y) H
 | .convert s d x=>FH P s d (ρ x) H
 | .call c=>match c.callee with
  | .builtin .append=>R0 P c.argTypes (c.args.toList.map ρ) H
  | .builtin .clear=>Um P c.argTypes (c.args.toList.map ρ) H
  | _=>none
 | .alloc t=>Tt P t H
 | .makeSlice t l c=>UM P t (ρ l) (ρ c) H
 | _=>none
def ML (P:Program) (ρ:Operand->Value) (o:Oper) (H:AA):Option (Value × AA):=
 match Uu P ρ o H with
 | some t=>t.run
 | none=>PU P ρ o H
section
variable {P:Program} {base:Env} {W0:World} {μ:Ae} {H:AA} {W:World}
theorem AJ.congr (h:AJ base W0 μ H W) {H':AA} (hg:∀b,H'.get b=H.get b) (hn:H'.next=H.next):AJ base W0 μ H' W:=by
 refine⟨fun b o hb=>h.obj b o (by rw[<-hg];exact hb),fun b o hb=>h.own b o (by rw[<-hg];exact hb),fun b1 b2 o1 o2 h1 h2=>h.inj b1 b2 o1 o2 (by rw[<-hg];exact h1) (by rw[<-hg];exact h2),?_,h.bound,h.size,h.below,h.out,h.os,?_,h.le,h.grow⟩
 ·intro b hb;rw[hg];rw[hn]at hb;exact h.fresh b hb
 ·obtain⟨φ,q⟩:=h.abs;exact⟨φ,fun b a ro T h1 h2=>q.rep b a ro T (by rw[<-hg];exact h1) h2,fun b a ro T h1 h2 b2 o2 T2 h3=>q.DG b a ro T (by rw[<-hg];exact h1) h2 b2 o2 T2 (by rw[<-hg];exact h3)⟩
theorem Ap.congr {μ':Ae} {H1 H' H1':AA} (h:Ap μ H μ' H') (h1:∀b,b < H.next->μ b=none->H1.get b=H.get b) (h2:∀b,b < H.next->μ b=none->H1'.get b=H'.get b) (n1:H1.next=H.next) (n2:H1'.next=H'.next):Ap μ H1 μ' H1':=
 ⟨h.le,by rw[n1,n2];exact h.next,fun b hb hm=>by
  obtain⟨e1,e2⟩:=h.ghost b (by rw[<-n1];exact hb) hm;have hb':b < H.next:=by rw[<-n1];exact hb
  exact⟨e1,by rw[h2 b hb' hm,h1 b hb' hm];exact e2⟩⟩
theorem GI {k:EK} {l:List (EK.C k)} {ro:Bool} {b j n c:Nat} {x':Value} (h:AJ base W0 μ H W) (hb:H.get b=some (.vec k l ro)) (hx:AH μ (.slice (some ⟨b,0,some j⟩) n c) x'):
 (AH μ (.slice (some ⟨b,j * k.length,none⟩) n c) x'/\(∀T,μ b=some T->T.r≠0)/\(0:Nat)=0)∨((0:Nat)=0/\n=0/\(c=0∨(Aa<=c/\c - Aa=0))/\∃(T:Bc) (a:Option (Nat × Nat)),μ b=some T/\x'= .slice (a.map fun p=>⟨p.1,p.2,none⟩) 0 0):=by
 cases hx with
 | Bk _ _ _ _ cap' o' T hm hc ho hr=>
  have he:=h.elem hb hm;rw[he]at hc ho;exact .inl ⟨.slice b _ _ _ _ _ T hm hc ho,fun T' hT'=>by rw[hm]at hT';cases hT';exact hr,rfl⟩
 | DW _ _ _ T a hm hc=>exact .inr ⟨rfl,rfl,hc,T,a,hm,rfl⟩
theorem Wb {k:EK} {b j n c:Nat} {x':Value} (hk0:k.length≠0) (hcu:Aa<=c) (hk:∀T,μ b=some T->T.e=k.length) (hx:AH μ (.slice (some ⟨b,j * k.length,none⟩) n c) x'):
 AH μ (.slice (some ⟨b,0,some j⟩) n c) x':=by
 generalize hq:j * k.length=q at hx;cases hx with
 | slice _ _ _ _ cap' o' T hm hc ho=>
  have he:=hk T hm;rw[<-hq,<-he]at hc ho
  by_cases hr:T.r=0
  ·rcases hc with⟨c1,_⟩ | ⟨_,c2,c3,c4,c5⟩
   ·omega
   ·have h0:cap'=0:=by
     rcases ABr cap' with h | h
     ·exact h
     ·have:1 * T.e<=cap' * T.e:=di _ h;omega
    subst h0;obtain rfl:n=0:=by omega
    exact .DW b j c T (some (T.c,o')) hm (.inr ⟨hcu,by omega⟩)
  ·exact .Bk b _ _ _ _ _ T hm hc ho hr
theorem Wg {k:EK} {b j n c:Nat} {x':Value} (hnr:∀T,μ b=some T->T.r≠0) (hk:∀T,μ b=some T->T.e=k.length) (hx:AH μ (.slice (some ⟨b,j * k.length,none⟩) n c) x'):
 AH μ (.slice (some ⟨b,0,some j⟩) n c) x':=by
 generalize hq:j * k.length=q at hx;cases hx with
 | slice _ _ _ _ cap' o' T hm hc ho=>
  have he:=hk T hm;rw[<-hq,<-he]at hc ho;exact .Bk b _ _ _ _ _ T hm hc ho (hnr T hm)
theorem aw {k:EK} {b j o q:Nat} {x':Value} (hk:∀T,μ b=some T->T.e=k.length) (hlo:o < Aa) (hq:q=j * k.length+o) (hx:AH μ (.pointer (some ⟨b,q,none⟩)) x'):AH μ (.pointer (some ⟨b,o,some j⟩)) x':=by
 cases hx with
 | ptr _ _ T hm=>
  have he:=hk T hm;rw[hq,<-he];exact .HS b o j T hm hlo
theorem aR {k:EK} {l:List (EK.C k)} {ro:Bool} {b j o:Nat} {x':Value} (h:AJ base W0 μ H W) (hlo:o < Aa) (hb:H.get b=some (.vec k l ro)) (hx:AH μ (.pointer (some ⟨b,o,some j⟩)) x'):AH μ (.pointer (some ⟨b,j * k.length+o,none⟩)) x':=by
 cases hx with
 | HY _ _ _ _ _ _ _ e=>exact absurd hlo (by rw[e];exact uB _)
 | HS _ _ _ T hm=>
  rw[h.elem hb hm];exact .ptr b _ T hm
theorem BA {c:Bool} {a:VT} {r:Value × AA} (h:(VT.test c a .fail).run=some r):c=true/\a.run=some r:=by
 cases c
 ·cases h
 ·exact⟨rfl,h⟩
theorem BO {v v2:Value} {H H2:AA} (h:(VT.ret v H).run=some (v2,H2)):v2=v/\H2=H:=by cases h;exact⟨rfl,rfl⟩
theorem Wn (h:AJ base W0 μ H W) {t:TypeId} {b o i:Nat} (hlo:o < Aa) {a' v:Value} {H':AA} (ha:AH μ (.pointer (some ⟨b,o,some i⟩)) a') (hi:(Jq P t b o i H).run=some (v,H')):
 H'=H/\∃v',(Instr.loadAt t a').run P W= .ok v' W/\AH μ v v':=by
 have key:H'=H/\bP P t b o i H=some v:=by
  unfold Jq at hi;unfold bP;split at hi
  ·rename_i k l ro hb;simp only[hb];split at hi
   ·rename_i d n hd hn;simp only[hd,hn];cases hon:Nat.ble (o+n) k.length
    ·simp[hon,VT.run]at hi
    ·simp only[hon,C8]at hi ⊢;cases hag:E4 d
     ·simp only[hag,EB]at hi ⊢;split at hi
      ·rename_i v0 hv0;cases hsl:XF d
       ·simp only[hsl,EB]at hi;obtain⟨h1,h2⟩:=BA hi;obtain⟨rfl,rfl⟩:=BO h2;simp only[h1,C8,hv0,AAV]
       ·simp only[hsl,C8]at hi;obtain⟨h1,h2⟩:=BA hi;obtain⟨rfl,rfl⟩:=BO h2;simp only[Dg]at h1;simp only[h1.1,C8,hv0,aK h1.2,AAV]
      ·cases hi
     ·simp only[hag,C8]at hi ⊢;obtain⟨h1,h2⟩:=BA hi;obtain⟨rfl,rfl⟩:=BO h2;simp only[h1,C8,AAV]
   ·cases hi
  ·cases hi
 exact⟨key.1,b8 h hlo ha key.2⟩
theorem XE (k:EK) (l:List (EK.C k)) (i o:Nat) (c:AL) (e:EK.C k) (hi:i < l.length) (ho:o+c.length<=k.length) (he:EK.enc k e=Bi (EK.enc k (l.getD i (EK.BL k))) o c):
 Bi (Ag k l) (i * k.length+o) c=Ag k (l.set i e):=by
 have h1:l=l.take i++(l.getD i (EK.BL k))::l.drop (i+1):=by
  have:l.getD i (EK.BL k)=l[i]:=by rw[Kd,Jj hi];rfl
  rw[this];simp
 have h2:l.set i e=l.take i++e::l.drop (i+1):=by rw[List.set_eq_take_append_cons_drop,MB hi]
 have hl:(Ag k (l.take i)).length=i * k.length:=by rw[BH,Rg,rH (by omega)]
 have hx:(EK.enc k (l.getD i (EK.BL k))).length=k.length:=EK.Cd _ _;rw[h2,Cj,DP,he]
 conv=>lhs;rw[h1,Cj,DP]
 generalize hA:Ag k (l.take i)=A at hl ⊢;generalize hB:EK.enc k (l.getD i (EK.BL k))=B at hx ⊢;generalize Ag k (l.drop (i+1))=C;show(A++(B++C)).take (i * k.length+o)++(c++(A++(B++C)).drop (i * k.length+o+c.length))=A++((B.take o++(c++B.drop (o+c.length)))++C);rw[<-hl,jV,List.take_length_add_append,List.drop_length_add_append,Zq (by omega),yl (by omega)];simp
theorem Ts (h:AJ base W0 μ H W) {t:TypeId} {b o i:Nat} (hlo:o < Aa) {a' x x' v:Value} {H':AA} (ha:AH μ (.pointer (some ⟨b,o,some i⟩)) a') (hx:AH μ x x') (hi:(R3 P t b o i x H).run=some (v,H')):
 v=Go.undef/\∃W',(Instr.storeAt t a' x').run P W= .ok () W'/\AJ base W0 μ H' W'/\Ap μ H μ H':=by
 unfold R3 at hi;split at hi
 ·rename_i k l hb;split at hi
  ·rename_i n hn;cases hc:(Nat.beq x.cells.toList.length n&&x.cells.toList.all Bh&&Nat.ble (o+x.cells.toList.length) k.length)
   ·simp only[hc,EB]at hi;cases hi
   ·simp only[hc,C8]at hi;simp only[Dg]at hc;obtain⟨⟨c1,c2⟩,c3⟩:=hc;have c3':=BE c3;split at hi
    ·rename_i e he;obtain⟨h1,h2⟩:=BA hi;obtain⟨rfl,rfl⟩:=BO h2;have h1:i < l.length:=BE h1;have hdv:=h.Ls hb fun T _=>QL (by omega)
     have hg:(H.put b (.cells (Ag k l) k.length false)).get b=some (.cells (Ag k l) k.length false):=by rw[AA.AU,MB rfl]
     have hT:∃T,μ b=some T:=by cases ha with | HS _ _ _ T hm=>exact⟨T,hm⟩ | HY _ _ _ T _ hm=>exact⟨T,hm⟩
     have hlen:i * k.length+o+x.cells.toList.length<=(Ag k l).length:=by
      rw[BH];have:(i+1) * k.length<=l.length * k.length:=di _ h1;rw[AAT]at this;omega
     have hs:Qf P t (.pointer (some ⟨b,i * k.length+o,none⟩)) x (H.put b (.cells (Ag k l) k.length false))=
      some ((H.put b (.cells (Ag k l) k.length false)).put b (.cells (Ag k (l.set i e)) k.length false)):=by
      unfold Qf;simp only[hg,hn,c1,c2,Ez hlen,ABO,C8];rw[XE k l i o _ e h1 c3' (EK.Ig _ _ _ he)]
     obtain⟨W',r1,r2,r3⟩:=TU (P:=P) hdv (aR h hlo hb ha) hx hs;refine⟨rfl,W',r1,?_,?_⟩
     ·have:=r2.JF (b:=b) (k:=k) (l:=l.set i e) (ro:=false) (by rw[AA.AU,MB rfl]);refine this.congr (fun j=>?_) rfl;simp only[AA.AU];split<;>rfl
     ·obtain⟨T,hT⟩:=hT;refine r3.congr (fun j _ hj=>?_) (fun j _ hj=>?_) rfl rfl
      ·rw[AA.AU,JT];rintro rfl;rw[hT]at hj;cases hj
      ·simp only[AA.AU];have:j≠b:=by rintro rfl;rw[hT]at hj;cases hj
       simp[this]
    ·cases hi
  ·cases hi
 ·cases hi
theorem NB {m:Int} (h:0<=m):m=Int.ofNat m.toNat:=by
 cases m with
 | ofNat n=>rfl
 | negSucc n=>exact absurd h (by omega)
theorem PI (h:AJ base W0 μ H W) {t:TypeId} {b j n c:Nat} {x' ix ix' v:Value} {H':AA} (hx:AH μ (.slice (some ⟨b,0,some j⟩) n c) x') (hix:AH μ ix ix') (hi:(F8 P t b j n ix H).run=some (v,H')):
 H'=H/\∃v',(Instr.indexAt t x' ix').run P W= .ok v' W/\AH μ v v':=by
 unfold F8 at hi;split at hi
 ·rename_i kd m;split at hi
  ·rename_i e k l ro hu hb;split at hi
   ·rename_i sz hsz;cases hk:Nat.beq sz k.length
    ·simp only[hk,EB]at hi;cases hi
    ·simp only[hk,C8]at hi;obtain⟨h1,h2⟩:=BA hi;obtain⟨rfl,rfl⟩:=BO h2;simp only[Dg,TL]at h1;have hk:=DN hk;subst hk;have hm:=NB h1.1;refine⟨rfl,?_⟩;rw[hm]at hix;rcases GI h hb hx with⟨hx,_,_⟩ | ⟨_,hn0,_⟩
     rotate_left
     ·have h2:m.toNat < n:=BE h1.2;omega
     obtain⟨v',r1,r2⟩:=Gu (P:=P) (W:=W) (t:=t) hx hix (v:= .pointer (some ⟨b,j * k.length+m.toNat * k.length,none⟩)) (by
      unfold GW;simp only[Ow,hu,hsz,h1.2,C8])
     refine⟨v',r1,aw (k:=k) (fun T hT=>h.elem hb hT) (by unfold Aa;decide) (by rw[sx,AAN]) r2⟩
   ·cases hi
  ·cases hi
 ·cases hi
theorem Qg (h:AJ base W0 μ H W) {t:TypeId} {b j:Nat} {x' ix ix' v:Value} {H':AA} (hx:AH μ (.pointer (some ⟨b,0,some j⟩)) x') (hix:AH μ ix ix') (hi:(Gd P t b j ix H).run=some (v,H')):
 H'=H/\∃v',(Instr.indexAt t x' ix').run P W= .ok v' W/\AH μ v v':=by
 unfold Gd at hi;split at hi
 ·rename_i kd m;split at hi
  ·rename_i n e k l ro hu hb;split at hi
   ·rename_i sz hsz;cases hk:Nat.beq sz k.length
    ·simp only[hk,EB]at hi;cases hi
    ·simp only[hk,C8]at hi;obtain⟨h1,h2⟩:=BA hi;obtain⟨rfl,rfl⟩:=BO h2;simp only[Dg,TL]at h1;have hk:=DN hk;subst hk;have hm:=NB h1.1;refine⟨rfl,?_⟩;rw[hm]at hix;have hx:=aR h (by unfold Aa;decide) hb hx;obtain⟨v',r1,r2⟩:=Gu (P:=P) (W:=W) (t:=t) hx hix (v:= .pointer (some ⟨b,j * k.length+0+m.toNat * k.length,none⟩)) (by
      unfold GW;simp only[Ow,hu,hsz,h1.2,C8])
     refine⟨v',r1,aw (k:=k) (fun T hT=>h.elem hb hT) (by unfold Aa;decide) (by rw[sx];omega) r2⟩
   ·cases hi
  ·cases hi
 ·cases hi
theorem OK (h:AJ base W0 μ H W) {s:TypeId} {b o i k:Nat} (hlo:o < Aa) {x' v:Value} {H':AA} (hx:AH μ (.pointer (some ⟨b,o,some i⟩)) x') (hi:(FK P s b o i k H).run=some (v,H')):
 H'=H/\∃v',(Instr.fieldAt s x' k).run P W= .ok v' W/\AH μ v v':=by
 unfold FK at hi;split at hi
 ·rename_i fields hu;split at hi
  ·rename_i f hf;split at hi
   ·rename_i n hn;cases hz:Nat.beq n 0
    ·simp only[hz,EB]at hi;obtain⟨hlo2,hi⟩:=BA hi;obtain⟨rfl,rfl⟩:=BO hi;refine⟨rfl,?_⟩;cases hx with
     | HY _ _ _ _ _ _ _ e=>exact absurd hlo (by rw[e];exact uB _)
     | HS _ _ _ T hm=>
      obtain⟨v',r1,r2⟩:=LY (P:=P) (W:=W) (s:=s) (k:=k) (AH.ptr b (i * T.e+o) T hm) (v:= .pointer (some ⟨b,i * T.e+o+f.offset,none⟩)) (by
       unfold Js;simp only[hu,hf,hn,hz,EB])
      refine⟨v',r1,?_⟩;cases r2 with
      | ptr _ _ T2 hm2=>
       rw[hm]at hm2;cases hm2
       rw[jV (i * T.e)];exact .HS b _ i T hm (BE hlo2)
    ·simp only[hz,C8]at hi;cases hi
   ·cases hi
  ·cases hi
 ·cases hi
theorem ZZ (h:AJ base W0 μ H W) {t:TypeId} {b o i:Nat} {a' v:Value} {H':AA} (ha:AH μ (.pointer (some ⟨b,o,some i⟩)) a') (hi:(MN P t b o i H).run=some (v,H')):
 H'=H/\∃v',(Instr.loadAt t a').run P W= .ok v' W/\AH μ v v':=Wn h (BE (BA hi).1) ha (BA hi).2
theorem WU (h:AJ base W0 μ H W) {t:TypeId} {b o i:Nat} {a' x x' v:Value} {H':AA} (ha:AH μ (.pointer (some ⟨b,o,some i⟩)) a') (hx:AH μ x x') (hi:(Zs P t b o i x H).run=some (v,H')):
 v=Go.undef/\∃W',(Instr.storeAt t a' x').run P W= .ok () W'/\AJ base W0 μ H' W'/\Ap μ H μ H':=Ts h (BE (BA hi).1) ha hx (BA hi).2
theorem PQ (h:AJ base W0 μ H W) {s:TypeId} {b o i k:Nat} {x' v:Value} {H':AA} (hx:AH μ (.pointer (some ⟨b,o,some i⟩)) x') (hi:(Ik P s b o i k H).run=some (v,H')):
 H'=H/\∃v',(Instr.fieldAt s x' k).run P W= .ok v' W/\AH μ v v':=OK h (BE (BA hi).1) hx (BA hi).2
end
section
variable {P:Program} {base:Env} {W0:World} {μ:Ae} {H:AA} {W:World}
theorem bm {T:Bc} {o n cap':Nat} (h:Ju T o n Aa cap'):Ju T o n (Aa+n) cap':=by
 rcases h with⟨h,_⟩ | ⟨_,_,h2,h3,h4⟩
 ·omega
 ·exact .inr ⟨by omega,by omega,h2,h3,h4⟩
theorem Ol {T:Bc} {o n m cap':Nat} (h:Ju T o n (Aa+m) cap'):Ju T o n Aa cap':=by
 rcases h with⟨h,_⟩ | ⟨_,_,h2,h3,h4⟩
 ·omega
 ·exact .inr ⟨by omega,by omega,h2,h3,h4⟩
theorem VN {b o n:Nat} {x':Value} (h:AH μ (.slice (some ⟨b,o,none⟩) n Aa) x'):AH μ (.slice (some ⟨b,o,none⟩) n (Aa+n)) x':=by
 cases h with
 | slice _ _ _ _ cap' o' T hm hc ho=>exact .slice b o n _ cap' o' T hm (bm hc) ho
theorem MK {b o n m:Nat} {x':Value} (h:AH μ (.slice (some ⟨b,o,none⟩) n (Aa+m)) x'):AH μ (.slice (some ⟨b,o,none⟩) n Aa) x':=by
 cases h with
 | slice _ _ _ _ cap' o' T hm hc ho=>exact .slice b o n _ cap' o' T hm (Ol hc) ho
theorem OF {v:Value} {kd:IntKind} {m:Int} {y:Nat} (hv:v= .int kd m) (h0:0<=m) (hy:m.toNat<=y):JA v y=some m.toNat:=by
 subst hv;rw[NB h0];unfold JA;simp only;rw[show Nat.ble (Int.toNat m) y=true from Ez hy];rfl
theorem Mb {lo hi:C1} {l h:Int} {n:Nat} (h1:LU lo 0=some l) (h2:LU hi n=some h) (a1:0<=h) (a2:h.toNat<=n) (a3:0<=l) (a4:l.toNat<=h.toNat):Ev n n lo hi none=some (l.toNat,h.toNat,n):=by
 cases hi with
 | none=>
  simp only[LU,C5]at h2;subst h2
  cases lo with
  | none=>simp only[LU,C5]at h1;subst h1;rfl
  | some v=>
   cases v<;>simp only[LU,C5,reduceCtorEq]at h1
   subst h1;simp only[Ev,VC];rw[OF rfl a3 (y:=n) (by simpa using a4)];rfl
 | some v=>
  cases v<;>simp only[LU,C5,reduceCtorEq]at h2
  subst h2;simp only[Ev,VC];rw[OF rfl a1 a2];cases lo with
  | none=>simp only[LU,C5]at h1;subst h1;rfl
  | some v=>
   cases v<;>simp only[LU,C5,reduceCtorEq]at h1
   subst h1;simp only[VC];rw[OF rfl a3 a4];rfl
theorem RU (h:AJ base W0 μ H W) {t:TypeId} {s:As} {x' v:Value} {lo lo' hi hi':C1} {H':AA} (hx:AH μ (.string s) x') (hlo:Fa μ lo lo') (hhi:Fa μ hi hi') (hi0:(Gn P t s lo hi H).run=some (v,H')):
 H'=H/\∃v',(Instr.sliceAt t x' lo' hi' none).run P W= .ok v' W/\AH μ v v':=by
 unfold Gn at hi0;split at hi0
 ·rename_i l hh hu h1 h2;obtain⟨c,hr⟩:=BA hi0;obtain⟨rfl,rfl⟩:=BO hr;simp only[Dg,TL]at c;obtain⟨⟨⟨c1,c2⟩,c3⟩,c4⟩:=c;refine⟨rfl,LA h hx hlo hhi .none ?_⟩;unfold Ji;simp only[hu];rw[Mb h1 h2 c1 (BE c2) c3 (BE c4)]
 ·cases hi0
theorem QX {t e:TypeId} {sz:Nat} (a:Option (Nat × Nat)) {lo lo' hi hi' mx mx':C1} (hu:P.underlying t=some (.slice e)) (hsz:Dx P e=some sz) (hlo:Fa μ lo lo') (hhi:Fa μ hi hi') (hmx:Fa μ mx mx') (hb:Ev 0 0 lo hi mx=some (0,0,0)):
 (Instr.sliceAt t (.slice (a.map fun p=>⟨p.1,p.2,none⟩) 0 0) lo' hi' mx').run P W= .ok (.slice (a.map fun p=>⟨p.1,p.2,none⟩) 0 0) W:=by
 obtain⟨m',hrun,_,hmm,_⟩:=H8 (P:=P) (W:=W) true hlo hhi hmx hb (GO _);have:m'=0:=by rcases hmm with⟨_,h,_⟩ | ⟨_,h1,h2⟩<;>omega
 subst this;simp[Instr.sliceAt,Instr.slice,run_underlying hu,hrun,Bg hsz]
theorem Wx (h:AJ base W0 μ H W) {t:TypeId} {b j n c:Nat} {x' v:Value} {lo lo' hi hi':C1} {H':AA} (hx:AH μ (.slice (some ⟨b,0,some j⟩) n c) x') (hlo:Fa μ lo lo') (hhi:Fa μ hi hi') (hi0:(LD P t b j n c lo hi H).run=some (v,H')):
 H'=H/\∃v',(Instr.sliceAt t x' lo' hi' none).run P W= .ok v' W/\AH μ v v':=by
 unfold LD at hi0;split at hi0
 ·rename_i e k l0 ro l hh hu hb h1 h2;split at hi0
  ·rename_i sz hsz;cases hk:(Nat.beq sz k.length&&Nat.beq c Aa)
   ·simp only[hk,EB]at hi0;cases hi0
   ·simp only[hk,C8]at hi0;simp only[Dg]at hk;have e1:=DN hk.1;have e2:=DN hk.2;subst e1 e2;obtain⟨c,hr⟩:=BA hi0;obtain⟨rfl,hH'⟩:=BO hr;simp only[Dg,TL]at c;obtain⟨⟨⟨c1,c2⟩,c3⟩,c4⟩:=c;have c2:=BE c2;have c4:=BE c4;refine⟨hH',?_⟩;have hT:=fun T (hT:μ b=some T)=>h.elem hb hT
    rcases GI h hb hx with⟨hx1,hnr,_⟩ | ⟨_,rfl,hcap,T,a,hm,rfl⟩
    rotate_left
    ·have hl0:l.toNat=0:=by omega
     have hh0:hh.toNat=0:=by omega
     refine⟨_,QX a hu hsz hlo hhi .none ?_,?_⟩
     ·rw[Mb h1 h2 c1 c2 c3 c4,hl0,hh0]
     ·rw[hl0,hh0];exact .DW b _ _ T a hm hcap
    have hdv:=h.Ls hb fun T hT hv=>hnr T hT hv.2.1
    have hg:(H.put b (.cells (Ag k l0) k.length ro)).get b=some (.cells (Ag k l0) k.length ro):=by rw[AA.AU,MB rfl]
    obtain⟨v',r1,r2⟩:=LA (P:=P) hdv (t:=t) (v:= .slice (some ⟨b,j * k.length+l.toNat * k.length,none⟩) (hh.toNat - l.toNat) (Aa+(n - l.toNat))) (VN hx1) hlo hhi .none (by
     unfold Ji;simp only[hu,hsz,hg];have hlt:Nat.blt (Aa+n) Aa=false:=by
      cases hq:Nat.blt (Aa+n) Aa
      ·rfl
      ·have:Aa+n < Aa:=BE hq;omega
     simp only[hlt,EB];unfold Ib;simp only[hlt,EB];have hsub:Aa+n - Aa=n:=by omega
     rw[hsub,Mb h1 h2 c1 c2 c3 c4];have hle:Nat.ble l.toNat n=true:=Ez (by omega);simp only[hle,VX,ABO,C8])
    refine⟨v',r1,?_⟩;rw[<-sx]at r2;exact Wg hnr hT (MK r2)
  ·cases hi0
 ·cases hi0
theorem O7 {lo:C1} {l h m:Int} {kh km:IntKind} {n:Nat} (h1:LU lo 0=some l) (b1:0<=m) (b2:m.toNat<=n) (a1:0<=h) (a2:h.toNat<=m.toNat) (a3:0<=l) (a4:l.toNat<=h.toNat):
 Ev n n lo (some (.int kh h)) (some (.int km m))=some (l.toNat,h.toNat,m.toNat):=by
 unfold Ev;simp only[OF rfl b1 b2,VC,OF rfl a1 a2];cases lo with
 | none=>simp only[LU,C5]at h1;subst h1;rfl
 | some v=>
  cases v<;>simp only[LU,C5,reduceCtorEq]at h1
  subst h1;simp only[OF rfl a3 a4,VC]
theorem Uq (h:AJ base W0 μ H W) {t:TypeId} {b j n c:Nat} {x' v mx mx':Value} {lo lo' hi hi':C1} {H':AA} (hx:AH μ (.slice (some ⟨b,0,some j⟩) n c) x') (hlo:Fa μ lo lo') (hhi:Fa μ hi hi') (hmx:AH μ mx mx')
 (hi0:(JK P t b j n c lo hi mx H).run=some (v,H')):
 H'=H/\∃v',(Instr.sliceAt t x' lo' hi' (some mx')).run P W= .ok v' W/\AH μ v v':=by
 unfold JK at hi0;split at hi0
 ·rename_i e k l0 ro l kh hh km m hu hb h1;split at hi0
  ·rename_i sz hsz;cases hk:(Nat.beq sz k.length&&Nat.beq c Aa)
   ·simp only[hk,EB]at hi0;cases hi0
   ·simp only[hk,C8]at hi0;simp only[Dg]at hk;have e1:=DN hk.1;have e2:=DN hk.2;subst e1 e2;obtain⟨c,hr⟩:=BA hi0;obtain⟨rfl,hH'⟩:=BO hr;simp only[Dg,TL]at c;obtain⟨⟨⟨⟨⟨⟨d1,d2⟩,d3⟩,c1⟩,c2⟩,c3⟩,c4⟩:=c;have d2:=BE d2;have c2:=BE c2;have c4:=BE c4;refine⟨hH',?_⟩;rcases GI h hb hx with⟨hx1,hnr,_⟩ | ⟨_,rfl,hcap,T,a,hm,rfl⟩
    rotate_left
    ·have hl0:l.toNat=0:=by omega
     have hh0:hh.toNat=0:=by omega
     have hm0:m.toNat=0:=by omega
     refine⟨_,QX a hu hsz hlo hhi (.some hmx) ?_,?_⟩
     ·rw[O7 h1 d1 d2 c1 c2 c3 c4,hl0,hh0,hm0]
     ·rw[hl0,hh0];exact .DW b _ _ T a hm hcap
    have hdv:=h.Ls hb fun T hT hv=>hnr T hT hv.2.1
    have hg:(H.put b (.cells (Ag k l0) k.length ro)).get b=some (.cells (Ag k l0) k.length ro):=by rw[AA.AU,MB rfl]
    obtain⟨v',r1,r2⟩:=LA (P:=P) hdv (t:=t) (v:= .slice (some ⟨b,bif Nat.beq m.toNat l.toNat then j * k.length else j * k.length+l.toNat * k.length,none⟩) (hh.toNat - l.toNat) (m.toNat - l.toNat)) (VN hx1) hlo hhi (.some hmx) (by
     unfold Ji;simp only[hu,hsz,hg];have hlt:Nat.blt (Aa+n) Aa=false:=by
      cases hq:Nat.blt (Aa+n) Aa
      ·rfl
      ·have:Aa+n < Aa:=BE hq;omega
     simp only[hlt,EB];unfold Ib;simp only[hlt,EB];have hsub:Aa+n - Aa=n:=by omega
     rw[hsub,O7 h1 d1 d2 c1 c2 c3 c4];simp only[d3,C8])
    refine⟨v',r1,?_⟩;have hx2:=hx1;generalize hq:j * k.length=q at hx2;cases hx2 with
    | slice _ _ _ _ cap0 o0 T hm hc ho=>
     have hT:=h.elem hb hm;have hr:=hnr T hm;rw[<-hq,<-hT]at hc ho;generalize hX:(bif Nat.beq m.toNat l.toNat then j * k.length else j * k.length+l.toNat * k.length)=X at r2;cases r2 with
     | slice _ _ _ _ cap2 o2 T2 hm2 hc2 ho2=>
      rw[hm]at hm2;cases hm2
      have hcap2:cap2=m.toNat - l.toNat:=by
       rcases hc2 with⟨_,e⟩ | ⟨e,_⟩
       ·exact e
       ·exfalso;have:m.toNat < Aa:=BE d3;omega
      subst hcap2;rcases hc with⟨q,_⟩ | ⟨_,_,q1,q2,q3⟩
      ·omega
      ·refine .Bk b _ _ _ _ o2 T hm (.inr ⟨GO _,by omega,by omega,?_,?_⟩) ?_ hr
       ·have e1:(j+l.toNat) * T.e+(m.toNat - l.toNat) * T.e=j * T.e+m.toNat * T.e:=by rw[<-sx,<-sx];congr 1;omega
        have e2:m.toNat * T.e<=cap0 * T.e:=di _ (by omega);omega
       ·rcases q3 with q3 | q3
        ·exact .inl q3
        ·exact .inr (by omega)
       ·rcases ho2 with ho2 | ⟨z1,z2⟩
        ·cases hml:Nat.beq m.toNat l.toNat
         ·rw[hml]at hX;simp only[EB]at hX;refine .inl ?_;rw[ho2,<-hX,hT,sx]
         ·have:=DN hml;exact .inr ⟨by omega,by omega⟩
        ·exact .inr ⟨z1,z2⟩
  ·cases hi0
 ·cases hi0
theorem EK.Yt {k:EK} {l:AL} {x:EK.C k} (h:EK.dec k l=some x):l.length=k.length:=by
 rw[<-EK.Ig k l x h,EK.Cd]
theorem Kk (k:EK) (_hk:k.length≠0):∀(n:Nat) (cs:AL) (l:List (EK.C k)),QV k n cs=some l->Ag k l=cs.take (n * k.length)/\l.length=n/\n * k.length<=cs.length:=by
 intro n;induction n with
 | zero=>intro cs l h;simp only[QV,C5]at h;subst h;simp[Ag]
 | succ n ih=>
  intro cs l h;simp only[QV]at h;split at h
  ·rename_i x l2 h1 h2;cases h
   obtain⟨i1,i2,i3⟩:=ih _ _ h2;have hx:=EK.Ig _ _ _ h1;have hl:=EK.Yt h1;rw[Rg]at hl;rw[Tx]at i3;have e1:(n+1) * k.length=k.length+n * k.length:=by rw[AAT];omega
   refine⟨?_,by simp[i2],by omega⟩;rw[DP,hx,i1,e1,List.take_add]
  ·cases h
theorem ae (k:EK) (hk:k.all SK.plain=true) (l:List (EK.C k)):(Ag k l).all Bh=true:=by
 have h1:∀(k:EK),k.all SK.plain=true->∀x:EK.C k,(EK.enc k x).all Bh=true:=by
  intro k;induction k with
  | nil=>intro _ _;rfl
  | cons s r ih=>
   intro hk x;simp only[lf,Dg]at hk;have hs:∀y:s.C,Bh (s.enc y)=true:=by
    intro y;cases s<;>first | rfl | (simp[SK.plain]at hk)
   cases r with
   | nil=>simp only[EK.enc,lf,List.all_nil,ABO];exact hs x
   | cons t r=>simp only[EK.enc,lf,Dg];exact⟨hs _,ih hk.2 _⟩
 induction l with
 | nil=>rfl
 | cons x l ih=>rw[DP,List.all_append,h1 k hk x,ih];rfl
theorem XQ (s:As):Ag J4 (B1 s)=s.data.toList.map fun b=>Value.int .u8 b.toNat:=by
 unfold B1;induction s.data.toList with
 | nil=>rfl
 | cons a l ih=>
  have h1:Ag J4 (((a.toNat:Int)::l.map (fun b=>(b.toNat:Int))):Ad)=[Value.int .u8 a.toNat]++Ag J4 (l.map fun b=>(b.toNat:Int)):=rfl;exact h1.trans (congrArg ([Value.int .u8 a.toNat]++·) ih)
theorem C0 (s:As):(B1 s).length=s.size:=by
 unfold B1;rw[oB,ax];rfl
theorem Wf {sz n:Nat} {x:Value} {l:AL} (h:EM sz x H=some (n,l)):l.length=n * sz:=by
 unfold EM at h;split at h
 ·rename_i m c;cases hb:Nat.beq m 0
  ·simp[hb]at h
  ·simp only[hb,C8,C5,Si]at h;obtain⟨rfl,rfl⟩:=h;simp
 ·rename_i b off m c;cases hb:Nat.beq (m * sz) 0
  ·simp only[hb,EB]at h;split at h
   ·rename_i cs e ro hg;cases hl:Nat.beq ((cs.drop off).take (m * sz)).length (m * sz)
    ·rw[hl]at h;cases h
    ·rw[hl]at h;cases h;exact DN hl
   ·cases h
  ·simp only[hb,C8,C5,Si]at h;obtain⟨rfl,rfl⟩:=h;rw[DN hb];rfl
 ·rename_i s;cases hb:Nat.beq sz 1
  ·simp[hb]at h
  ·simp only[hb,C8,C5,Si]at h;obtain⟨rfl,rfl⟩:=h;rw[DN hb,oB,ax,AAo];rfl
 ·cases h
theorem br (h:AJ base W0 μ H W) {k:EK} (hk:k.length≠0) {x x':Value} {n:Nat} {new:List (EK.C k)} (hx:AH μ x x') (hs:sD k x H=some (true,n,new)):
 (∃Hd fx,AJ base W0 μ Hd W/\AH μ fx x'/\EM k.length fx Hd=some (n,Ag k new)/\new.length=n)∨(n=0/\new=[]/\∃a:Option (Nat × Nat),x'= .slice (a.map fun p=>⟨p.1,p.2,none⟩) 0 0):=by
 unfold sD at hs;split at hs
 ·rename_i m c;cases hm:Nat.beq m 0
  ·simp[hm]at hs
  ·simp only[hm,C8,C5,Si,AA4]at hs;obtain⟨rfl,rfl⟩:=hs;refine .inl ⟨H,_,h,hx,?_,rfl⟩;unfold EM;simp only[hm,C8,lF]
 ·rename_i b j m c;split at hs
  ·rename_i k' l ro hb;split at hs
   ·rename_i hkk;subst hkk;simp only[C5,Si]at hs;obtain⟨h1,rfl,rfl⟩:=hs;have h1:=BE h1;rcases GI h hb hx with⟨hx,hnr,_⟩ | ⟨_,hm0,hcap,T,a,hm,rfl⟩
    rotate_left
    ·subst hm0;exact .inr ⟨rfl,by simp,a,rfl⟩
    refine .inl ⟨_,_,h.Ls hb fun T hT hv=>hnr T hT hv.2.1,hx,?_,by rw[Rg,Tx];omega⟩;have hg:(H.put b (.cells (Ag k' l) k'.length ro)).get b=some (.cells (Ag k' l) k'.length ro):=by rw[AA.AU,MB rfl]
    unfold EM;cases hz:Nat.beq (m * k'.length) 0
    ·simp only[hz,EB,hg];rw[Ei,D8];have hll:(Ag k' ((l.drop j).take m)).length=m * k'.length:=by
      rw[BH,Rg,Tx,rH (by omega)]
     rw[hll,VX];rfl
    ·simp only[hz,C8];have hz:=DN hz;have:m=0:=by
      rcases Nat.mul_eq_zero.1 hz with h | h
      ·exact h
      ·exact absurd h hk
     subst this;simp[Ag]
   ·cases hs
  ·cases hs
 ·rename_i b o m c;split at hs
  ·rename_i m2 cs hi;split at hs
   ·rename_i l hl;simp only[C5,Si,AA4]at hs;obtain⟨rfl,rfl⟩:=hs;obtain⟨e1,e2,e3⟩:=Kk k hk _ _ _ hl;have hlen:=Wf hi;refine .inl ⟨H,_,h,hx,?_,e2⟩;rw[hi,e1,Nw (by omega)]
   ·cases hs
  ·cases hs
 ·rename_i s;split at hs
  ·simp only[C5,Si,AA4]at hs;obtain⟨rfl,rfl⟩:=hs;refine .inl ⟨H,_,h,hx,?_,C0 s⟩;rw[XQ];rfl
  ·cases hs
 ·cases hs
end
section
variable {P:Program} {base:Env} {W0:World} {μ:Ae} {H:AA} {W:World}
theorem SI:Nat.blt 0 Aa=true:=by
 unfold Aa;rfl
theorem JC {bytes m:Nat} (h:BQ bytes m=true):(Nat.ble ((2 * m+192) * bytes) 281474976710656=true)/\Nat.ble m 4611686018427387904=true:=by
 unfold BQ at h;simpa only[Dg] using h
theorem F4 {Hd H1:AA} {μ1:Ae} {W1:World} {k:EK} (hk0:k.length≠0) {rows:List (EK.C k)} {m:Nat} {v':Value} (hr:AJ base W0 μ1 (Hd.alloc (.cells (Ag k rows) k.length false)) W1) (hv:AH μ1 (.slice (some ⟨Hd.next,0,none⟩) m (Aa+m)) v')
 (hg:∀b,b≠Hd.next->H1.get b=Hd.get b) (hn:H1.next=Hd.next):AJ base W0 μ1 (H1.alloc (.vec k rows false)) W1/\AH μ1 (.slice (some ⟨H1.next,0,some 0⟩) m Aa) v':=by
 have hget:(Hd.alloc (.cells (Ag k rows) k.length false)).get Hd.next=some (.cells (Ag k rows) k.length false):=by rw[AA.AM,MB rfl]
 have h2:=hr.JF (b:=Hd.next) (k:=k) (l:=rows) (ro:=false) hget;refine⟨h2.congr (fun b=>?_) (by show H1.next+1=Hd.next+1;rw[hn]),?_⟩
 ·rw[AA.AM,AA.AU,AA.AM,hn]
  by_cases e:b=Hd.next
  ·simp[e]
  ·simp[e,hg b e]
 ·rw[hn];have hT:∀T,μ1 Hd.next=some T->T.e=k.length:=fun T hT=>h2.elem (by rw[AA.AU,MB rfl]) hT
  exact Wb (j:=0) hk0 (GO _) hT (by rw[ABp];exact MK hv)
theorem WD (h:AJ base W0 μ H W) {argTypes:Array TypeId} {ty e:TypeId} {i:TypeInfo} {zz x':Value} {n:Nat} {new:AL} (hsrc:MY P μ W argTypes ty e i zz x' n new) (hzsz:zz.cells.size=i.size) (hnl:new.length=n * i.size)
 (a:Option (Nat × Nat)) (hn:n≠0) (hbig:(2 * n+192) * i.bytes<=281474976710656) (hbig2:n<=4611686018427387904):
  ∃μ' v' W',(Builtin.append_ argTypes ty #[.slice (a.map fun p=>⟨p.1,p.2,none⟩) 0 0,x']).run P W= .ok v' W'/\AJ base W0 μ' (H.alloc (.cells new i.size false)) W'/\
   AH μ' (.slice (some ⟨H.next,0,none⟩) n (Aa+n)) v'/\Ap μ H μ' (H.alloc (.cells new i.size false)):=by
 obtain⟨new2,m1,hgr⟩:=hsrc.iz;obtain⟨newCap,g1,g1b,g2⟩:=hgr (a.map fun p=>⟨p.1,p.2,none⟩) 0 0 [] (by omega) (by rw[RP];exact hbig) (by omega) (by cases a<;>simp[Builtin.firstCells,loadCells,loadCellsFrom]);rw[RP]at g1 g2;have hal:=(h.drawn (W.drawn+1)).alloc (T:=⟨W.heap.size,0,newCap * i.size,i.size⟩) (o:= .cells new i.size false) (o':= .cells ((#[]:BR)++new2.toArray++Builtin.zeroCells zz.cells (newCap - n)) e) rfl ?_
 ·refine⟨_,_,_,g2,hal.1,Eg _ _ rfl _ _ _ (.inr ⟨by omega,by omega,g1,?_,.inr g1b⟩),hal.2⟩;show 0+newCap * i.size<=newCap * i.size;omega
 ·have e2:=m1.length;refine .cells ⟨W.heap.size,0,newCap * i.size,i.size⟩ _ _ false _ e 0 0 rfl ?_ ?_ (fun _ j _=>by omega)
  ·simp only[bl,pJ,aU];rw[ic,Zq (by omega),Nw (by omega)];exact m1
  ·simp only[ABM,AAt,Eh,hzsz,RP];rw[<-e2,hnl,AA0,RP,<-sx]
   congr 1
   omega
theorem dp (h:AJ base W0 μ H W) {argTypes:Array TypeId} {ty e:TypeId} {i:TypeInfo} {zz s s' x' v:Value} {k:EK} {c:Bool} {n:Nat} {new:List (EK.C k)} {H':AA} {t:VT} (hs:AH μ s s') (hsz:k.length=i.size) (hk0:k.length≠0) (hok:(Ag k new).all Bh=true)
 (hzsz:zz.cells.size=i.size) (hsrc:c=true->MY P μ W argTypes ty e i zz x' n (Ag k new)/\new.length=n)
 (hi:WV k i.bytes s c n new H=some t) (hr:t.run=some (v,H')):
 ∃μ' v' W',(Builtin.append_ argTypes ty #[s',x']).run P W= .ok v' W'/\AJ base W0 μ' H' W'/\AH μ' v v'/\Ap μ H μ' H':=by
 have hnl:new.length=n->(Ag k new).length=n * i.size:=fun e=>by rw[BH,e,hsz]
 unfold WV at hi;split at hi
 ·
  rename_i len cap;cases hz:(Nat.beq len 0&&Nat.beq cap 0)
  ·simp only[hz,EB,C5]at hi;subst hi;cases hr
  ·simp only[hz,C8,C5]at hi;simp only[Dg]at hz;have e1:=DN hz.1;have e2:=DN hz.2;subst e1 e2 hi;obtain⟨rfl,hr⟩:=BA hr;obtain⟨hsrc,hnn⟩:=hsrc rfl;cases hs
   cases hn0:Nat.beq n 0
   ·have hr:(VT.test (BQ i.bytes n) (.ret (.slice (some ⟨H.next,0,some 0⟩) n Aa) (H.alloc (.vec k new false))) .fail).run=some (v,H'):=by simpa [VT.run,hn0] using hr
    obtain⟨hb,hr⟩:=BA hr;obtain⟨rfl,rfl⟩:=BO hr;obtain⟨b1,b2⟩:=JC hb;have hz1:Nat.ble (0+n) 0=false:=by
     cases hq:Nat.ble (0+n) 0
     ·rfl
     ·have:=BE hq;have:n=0:=by omega
      subst this;cases hn0
    have hap:Iv i.size i.bytes (.slice none 0 0) n (Ag k new) H=some (.slice (some ⟨H.next,0,none⟩) (0+n) (Aa+(0+n)),H.alloc (.cells ([]++Ag k new) i.size false)):=by
     unfold Iv;simp only[hn0,EB,SI,C8,hz1];unfold Nd EM;simp only[VX,C8,RP,b1,b2,yV]
    obtain⟨μ',v',W',r1,r2,r3,r4⟩:=G9 h (.CN 0 0) hsrc hzsz (hnl hnn) hok hap;simp only[RP,ic,<-hsz]at r2 r3 r4;obtain⟨g1,g2⟩:=F4 hk0 (H1:=H) r2 r3 (fun _ _=>rfl) rfl;refine⟨μ',v',W',r1,g1,g2,r4.congr (fun _ _ _=>rfl) (fun b hb _=>?_) rfl rfl⟩;rw[AA.AM,AA.AM,JT (by omega),JT (by omega)]
   ·have hr:(VT.ret (.slice none 0 0) H).run=some (v,H'):=by simpa [VT.run,hn0] using hr
    obtain⟨rfl,rfl⟩:=BO hr;have hn0:=DN hn0;subst hn0;obtain⟨new',hn1,hinR⟩:=hsrc.wz;exact⟨μ,_,W,hinR none 0 0 W (GO _) (fun a ha=>by cases ha) (fun _=>rfl),h,.CN 0 0,Ap.refl _ _⟩
 ·
  rename_i b j len cap;split at hi
  ·rename_i k' l hb;cases hcap:Nat.beq cap Aa
   ·simp only[hcap,EB,C5]at hi;subst hi;cases hr
   ·simp only[hcap,C8]at hi;have hcap:=DN hcap;subst hcap;split at hi
    ·rename_i hkk;subst hkk;simp only[C5]at hi;subst hi;obtain⟨hc,hr⟩:=BA hr;obtain⟨rfl,rfl⟩:=BO hr;simp only[Dg]at hc;obtain⟨⟨hc1,hc2⟩,hc3⟩:=hc;have hc2:=BE hc2;obtain⟨b1,b2⟩:=JC hc3;obtain⟨hsrc,hnn⟩:=hsrc hc1;rcases GI h hb hs with⟨hs1,hnr,_⟩ | ⟨_,rfl,_,T0,a0,hm0,rfl⟩
     rotate_left
     ·
      obtain⟨d1,d2⟩:=h.del hm0;cases hn0:Nat.beq n 0
      ·have hn0:n≠0:=by rintro rfl;cases hn0
       rw[RP]at b1 b2;obtain⟨new',hn1,hinR⟩:=hsrc.wz;have hsrc2:=hsrc;obtain⟨μ',v',W',r1,r2,r3,r4⟩:=WD d1 hsrc2 hzsz (hnl hnn) a0 hn0 (BE b1) (BE b2);rw[<-hsz]at r2 r4;obtain⟨g1,g2⟩:=F4 hk0 (H1:=H.del b) r2 r3 (fun _ _=>rfl) rfl;refine⟨μ',v',W',r1,by simpa using g1,by rw[RP];exact g2,?_⟩;refine(d2.trans r4).congr (fun _ _ _=>rfl) (fun q hq hm=>?_) rfl rfl;have hq:q < H.next:=hq;rw[AA.AM,AA.AM,JT (by show q≠H.next;omega),JT (by show q≠H.next;omega)]
      ·have hn0:=DN hn0;subst hn0;obtain⟨new',hn1,hinR⟩:=hsrc.wz;have hnew:new=[]:=Ss hnn;subst hnew;have hnew':new'=[]:=Ss (by rw[<-hn1.length];rfl);subst hnew';obtain⟨g1,g2⟩:=d1.FN hm0 hk0 false;refine⟨μ.ext H.next ⟨T0.c,0,0,k'.length⟩,_,W,hinR (a0.map fun p=>⟨p.1,p.2,none⟩) 0 0 W (GO _) (fun a ha=>rfl) (fun _=>rfl),?_,?_,d2.trans ?_⟩
       ·rw[AAk,ic];exact g1
       ·exact .DW _ _ _ _ a0 (Ae.Af _ _ _) (.inr ⟨GO _,me _⟩)
       ·rw[AAk,ic];exact g2
     have hdv:=h.Ls hb fun T hT hv=>hnr T hT hv.2.1
     have hg:(H.put b (.cells (Ag k' l) k'.length false)).get b=some (.cells (Ag k' l) k'.length false):=by rw[AA.AU,MB rfl]
     have hT:∃T,μ b=some T:=by cases hs with | Bk _ _ _ _ _ _ T hm _ _ _=>exact⟨T,hm⟩ | DW _ _ _ T _ hm _=>exact⟨T,hm⟩
     have hold:((Ag k' l).drop (j * k'.length)).take (len * k'.length)=Ag k' ((l.drop j).take len):=by rw[Ei,D8]
     have hll:(Ag k' ((l.drop j).take len)).length=len * k'.length:=by
      rw[BH,Rg,Tx,rH (by omega)]
     have hap:FE i.size i.bytes len n (.slice (some ⟨b,j * k'.length,none⟩) len Aa) (Ag k' new) (H.put b (.cells (Ag k' l) k'.length false))=
      some (.slice (some ⟨H.next,0,none⟩) (len+n) (Aa+(len+n)),((H.put b (.cells (Ag k' l) k'.length false)).del b).alloc (.cells (Ag k' ((l.drop j).take len++new)) k'.length false)):=by
      unfold FE;simp only[hg,<-hsz,hold,hll,VX,b1,b2,yV,C8,Cj];rfl
     obtain⟨μ',v',W',r1,r2,r3,r4⟩:=L5 hdv hs1 hsrc hzsz (hnl hnn) hok (fun a m c e=>by cases e;exact GO _) (fun a m c e=>by cases e;rfl) hap;obtain⟨g1,g2⟩:=F4 hk0 (H1:=H.del b) r2 r3 (fun q _=>by
      rw[AA.BU,AA.BU,AA.AU]
      by_cases e:q=b<;>simp[e]) rfl
     refine⟨μ',v',W',r1,g1,g2,?_⟩;obtain⟨T,hT⟩:=hT;refine r4.congr (fun q hq hm=>?_) (fun q hq hm=>?_) rfl rfl
     ·have:q≠b:=by rintro rfl;rw[hT]at hm;cases hm
      rw[AA.AU,JT this]
     ·have:q≠b:=by rintro rfl;rw[hT]at hm;cases hm
      have hq:q < H.next:=hq;rw[AA.AM,AA.AM,JT (by show q≠H.next;omega),JT (by show q≠H.next;omega),AA.BU,AA.BU,AA.AU,JT this,JT this,JT this]
    ·simp only[C5]at hi;subst hi;cases hr
  ·simp only[C5]at hi;subst hi;cases hr
 ·
  rename_i b off len cap;split at hi
  ·rename_i cs ee hb;split at hi
   ·rename_i GK hold;obtain⟨d1,d2,d3⟩:=Kk k hk0 _ _ _ hold;rw[tV,ABG]at d1;have hll:((cs.drop off).take (len * k.length)).length=len * k.length:=by rw[<-d1,BH,d2]
    cases hcap:Nat.blt cap Aa
    ·simp only[hcap,EB]at hi;have hcapU:Aa<=cap:=by
      rcases U1 cap Aa with hh | hh
      ·exact absurd (Ez hh) (by rw[show Nat.ble (cap+1) Aa=Nat.blt cap Aa from rfl,hcap];decide)
      ·exact hh
     cases hee:Nat.beq ee k.length
     ·simp only[hee,EB,C5]at hi;subst hi;cases hr
     ·simp only[hee,C8,C5]at hi;subst hi;obtain⟨hc,hr⟩:=BA hr;obtain⟨rfl,rfl⟩:=BO hr;simp only[Dg]at hc;obtain⟨hc1,hc3⟩:=hc;obtain⟨b1,b2⟩:=JC hc3;obtain⟨hsrc,hnn⟩:=hsrc hc1;have hap:FE i.size i.bytes len n (.slice (some ⟨b,off,none⟩) len cap) (Ag k new) H=
       some (.slice (some ⟨H.next,0,none⟩) (len+n) (Aa+(len+n)),(H.del b).alloc (.cells (Ag k (GK++new)) k.length false)):=by
       unfold FE;simp only[hb,<-hsz,hll,VX,hee,b1,b2,yV,C8,Cj,d1]
      obtain⟨μ',v',W',r1,r2,r3,r4⟩:=L5 h hs hsrc hzsz (hnl hnn) hok (fun a m c e=>by cases e;exact hcapU) (fun a m c e=>by cases e;rfl) hap;obtain⟨g1,g2⟩:=F4 hk0 (H1:=H.del b) r2 r3 (fun _ _=>rfl) rfl;refine⟨μ',v',W',r1,g1,g2,r4.congr (fun _ _ _=>rfl) (fun q hq _=>?_) rfl rfl⟩;have hq:q < H.next:=hq;rw[AA.AM,AA.AM,JT (by show q≠H.next;omega),JT (by show q≠H.next;omega)]
    ·simp only[hcap,C8]at hi;cases hlc:Nat.beq len cap
     ·simp only[hlc,EB]at hi;cases hi
     ·simp only[hlc,C8,C5]at hi;have hlc:=DN hlc;subst hlc hi;obtain⟨rfl,hr⟩:=BA hr;obtain⟨hsrc,hnn⟩:=hsrc rfl;cases hn0:Nat.beq n 0
      ·have hr:(VT.test (BQ i.bytes (len+n)) (.ret (.slice (some ⟨H.next,0,some 0⟩) (len+n) Aa) (H.alloc (.vec k (GK++new) false))) .fail).run=some (v,H'):=by simpa [VT.run,hn0] using hr
       obtain⟨hb3,hr⟩:=BA hr;obtain⟨rfl,rfl⟩:=BO hr;obtain⟨b1,b2⟩:=JC hb3;have hz1:Nat.ble (len+n) len=false:=by
        cases hq:Nat.ble (len+n) len
        ·rfl
        ·have:=BE hq;have:n=0:=by omega
         subst this;cases hn0
       have hsrc0:EM i.size (.slice (some ⟨b,off,none⟩) len len) H=some (len,Ag k GK):=by
        unfold EM;cases hz:Nat.beq (len * i.size) 0
        ·rw[<-hsz]at hz;simp only[hb,<-hsz,hz,EB,hll,VX,C8,d1]
        ·simp only[hz,C8];have hz:=DN hz;rw[<-hsz]at hz;have:len=0:=by
          rcases Nat.mul_eq_zero.1 hz with h | h
          ·exact h
          ·exact absurd h hk0
         subst this;have:GK=[]:=Ss d2;subst this;rfl
       have hap:Iv i.size i.bytes (.slice (some ⟨b,off,none⟩) len len) n (Ag k new) H=some (.slice (some ⟨H.next,0,none⟩) (len+n) (Aa+(len+n)),H.alloc (.cells (Ag k GK++Ag k new) i.size false)):=by
        unfold Iv;simp only[hn0,EB,hcap,C8,hz1];unfold Nd;simp only[hsrc0,b1,b2,yV,C8]
       obtain⟨μ',v',W',r1,r2,r3,r4⟩:=G9 h hs hsrc hzsz (hnl hnn) hok hap;rw[<-Cj,<-hsz]at r2 r4;obtain⟨g1,g2⟩:=F4 hk0 (H1:=H) r2 r3 (fun _ _=>rfl) rfl;refine⟨μ',v',W',r1,g1,g2,r4.congr (fun _ _ _=>rfl) (fun q hq _=>?_) rfl rfl⟩;rw[AA.AM,AA.AM,JT (by omega),JT (by omega)]
      ·have hr:(VT.ret (.slice (some ⟨b,off,none⟩) len len) H).run=some (v,H'):=by simpa [VT.run,hn0] using hr
       obtain⟨e8,e9⟩:=BO hr;rw[e8,e9];have hap:Iv i.size i.bytes (.slice (some ⟨b,off,none⟩) len len) n (Ag k new) H=some (.slice (some ⟨b,off,none⟩) len len,H):=by
        unfold Iv;simp only[hn0,C8,Ez (GO len)]
       exact G9 h hs hsrc hzsz (hnl hnn) hok hap
   ·simp only[C5]at hi;subst hi;cases hr
  ·simp only[C5]at hi;subst hi;cases hr
 ·simp only[C5]at hi;subst hi;cases hr
end
section
variable {P:Program} {base:Env} {W0:World} {μ:Ae} {H:AA} {W:World}
theorem V2 {argTypes:Array TypeId} {ty sT xT e:TypeId} {i:TypeInfo} {zz:Value} (hty:argTypes.toList=[sT,xT]) (hu:P.underlying sT=some (.slice e)) (hss:DM (P.underlying xT)=true)
 (hie:P.info? e=some i) (q2:i.zero=some zz) (a:Option (Nat × Nat)):MY P μ W argTypes ty e i zz (.slice (a.map fun p=>⟨p.1,p.2,none⟩) 0 0) 0 []:=by
 obtain⟨d,hux,hd⟩:=Gg hss;have hlen:∀w:World,(Builtin.lenOf (.slice (a.map fun p=>⟨p.1,p.2,none⟩) 0 0)).run P w= .ok 0 w:=fun w=>rfl
 have hf:∀w:World,(Builtin.firstCells i.size 0 (.slice (a.map fun p=>⟨p.1,p.2,none⟩) 0 0)).run P w= .ok (([]:AL).toArray) w:=fun w=>by
  cases a<;>simp[Builtin.firstCells,loadCells,loadCellsFrom]
 exact⟨⟨[],.nil,fun bs len cap w' hc hst hno=>Lo hty hu hux hd hie (hlen W) hc (hf W) hst hno⟩,
  [],.nil,fun bs len cap lo hnc hbig hbig2 o2=>JR (ty:=ty) (P:=P) (W:=W) (bs:=bs) (cap:=cap) hty hu hux hd hie q2 (hlen W) hnc hbig hbig2 (hf W.drew) o2⟩
theorem Qs (C:Nat) (v:Value):Dn [v] C=List.replicate C v:=by
 unfold Dn;rw[List.eq_replicate_iff];refine⟨by simp,fun x hx=>?_⟩;obtain⟨i,_,rfl⟩:=List.mem_map.1 hx;simp[Nat.mod_one]
theorem S1:∀m:Nat,Ag J4 (List.replicate m (0:Int))=List.replicate m (Value.int .u8 0)
 | 0=>rfl
 | m+1=>congrArg (List.cons (Value.int .u8 0)) (S1 m)
theorem zT (h:AJ base W0 μ H W) {argTypes:Array TypeId} {ty sT xT:TypeId} {s s' x x' v:Value} {n:Int} {H':AA} {t:VT} (hty:argTypes.toList=[sT,xT]) (hs:AH μ s s') (hx:AH μ x x') (hz:zj P sT xT s x=some n)
 (hi:WV J4 1 s (decide (0<=n)&&decide (n<=140737488355328)) n.toNat (List.replicate n.toNat (0:Int)) H=some t) (hr:t.run=some (v,H')):
 ∃μ' v' W',(Builtin.append_ argTypes ty #[s',x']).run P W= .ok v' W'/\AJ base W0 μ' H' W'/\AH μ' v v'/\Ap μ H μ' H':=by
 unfold zj at hz;split at hz
 ·rename_i l c k n0;cases hb:(II P sT&&ZS (P.underlying xT))
  ·rw[hb]at hz;cases hz
  ·rw[hb]at hz;simp only[C8,C5]at hz;subst hz;rw[Dg]at hb;obtain⟨hb,hux⟩:=hb;obtain⟨kx,hux⟩:∃kx,P.underlying xT=some (.int kx):=by
    unfold ZS at hux;split at hux
    ·exact⟨_,by assumption⟩
    ·cases hux
   unfold II at hb;split at hb
   ·rename_i e hu;split at hb
    ·rename_i hue hke hze;split at hb
     ·rename_i i hie;simp only[Dg]at hb;have hi1:=DN hb.1;have hi2:=DN hb.2;obtain⟨i2,zz,q1,q2,q3,q4⟩:=HB hze;rw[hie]at q1;cases q1
      have hzs:zz.cells.size=i.size:=by rw[<-ax,q4,hi1];rfl
      cases hx
      refine dp (e:=e) (zz:=zz) (i:=i) (k:=J4) h hs hi1.symm (by decide) (ae J4 (by decide) _) hzs (fun hct=>?_) (hi2.symm ▸ hi) hr;rw[Dg,TL,TL]at hct;obtain⟨m,rfl⟩:∃m:Nat,n0=Int.ofNat m:=⟨n0.toNat,by simp;omega⟩
      have hm:(m:Int)<=140737488355328:=hct.2;have ht:(Int.ofNat m).toNat=m:=rfl;rw[ht];refine⟨?_,YC⟩;have hs:=w0 (P:=P) (μ:=μ) (W:=W) (ty:=ty) (kx:=k) (zz:=zz) (z:=[.int .u8 0]) (n:=m) q4 q3 hty hu hux hie q2 hzs (by rw[hi2];omega) (by omega);rw[show Dn [.int .u8 0] (m * [Value.int .u8 0].length)=Ag J4 (List.replicate m (0:Int))from by rw[S1,List.length_singleton,AAo];exact Qs m _]at hs;exact hs
     ·cases hb
    ·cases hb
   ·cases hb
 ·cases hz
theorem Tl (h:AJ base W0 μ H W) {argTypes:Array TypeId} {args:AL} {args':BR} {ty:TypeId} {v:Value} {H':AA} {t:VT} (ha:Am μ args args'.toList) (hi:R0 P argTypes args H=some t) (hr:t.run=some (v,H')):
 ∃μ' v' W',(Builtin.append_ argTypes ty args').run P W= .ok v' W'/\AJ base W0 μ' H' W'/\AH μ' v v'/\Ap μ H μ' H':=by
 unfold R0 at hi;split at hi
 ·rename_i sT xT s x hty;obtain⟨s',x',rfl,hs,hx⟩:=Uz ha rfl;split at hi
  ·rename_i n hzn;exact zT h hty hs hx hzn hi hr
  cases Jl:(isRow s||isRow x||isStr x||(isNil s&&qN x&&II P sT)||(isNil s&&qS x&&yo P sT))
  ·simp only[Jl,EB]at hi;cases hi
  ·simp only[Jl,C8]at hi;split at hi
   ·rename_i e hu;split at hi
    ·rename_i i z k hie hz hk;cases hc:(DM (P.underlying xT)&&Nat.beq z.length i.size&&Nat.beq k.length i.size&& !(Nat.beq k.length 0))
     ·simp only[hc,EB,C5]at hi;subst hi;cases hr
     ·simp only[hc,C8]at hi;simp only[Dg,sd]at hc;obtain⟨⟨⟨c1,c2⟩,c3⟩,c5⟩:=hc;have c2:=DN c2;have c3:=DN c3;have c5:k.length≠0:=by intro e;rw[e]at c5;cases c5
      obtain⟨i2,zz,q1,q2,q3,q4⟩:=HB hz;rw[hie]at q1;cases q1
      have hzsz:zz.cells.size=i.size:=by rw[<-c2,<-q4];simp
      split at hi
      ·rename_i c n new hsrc;have key:∀t,(Ag k new).all Bh=true->WV k i.bytes s c n new H=some t->t.run=some (v,H')->∃μ' v' W',(Builtin.append_ argTypes ty #[s',x']).run P W= .ok v' W'/\AJ base W0 μ' H' W'/\AH μ' v v'/\Ap μ H μ' H':=fun t hok hi hr=>by
        refine dp (e:=e) (zz:=zz) h hs c3 c5 hok hzsz (fun hct=>?_) hi hr;subst hct;rcases br h c5 hx hsrc with⟨Hd,fx,g1,g2,g3,g4⟩ | ⟨rfl,rfl,a,rfl⟩
        ·rw[c3]at g3;exact⟨TC g1 hty hu c1 hie q2 g2 g3,g4⟩
        ·exact⟨V2 hty hu c1 hie q2 a,rfl⟩
       cases hpk:(k.all SK.plain||(!isRow x&&(Ag k new).all Bh))
       ·simp only[hpk,EB]at hi;cases hix:isRow x
        ·simp only[hix,EB,C5]at hi;subst hi;cases hr
        ·simp only[hix,C8]at hi;split at hi
         ·rename_i t0 ht0;simp only[C5]at hi;subst hi;obtain⟨hok,hr⟩:=BA hr;exact key t0 hok ht0 hr
         ·cases hi
       simp only[hpk,C8]at hi;have hok:(Ag k new).all Bh=true:=by
        cases hk1:k.all SK.plain
        ·rw[hk1,yW,Dg]at hpk;exact hpk.2
        ·exact ae k hk1 new
       exact key t hok hi hr
      ·simp only[C5]at hi;subst hi;cases hr
    ·simp only[C5]at hi;subst hi;cases hr
   ·simp only[C5]at hi;subst hi;cases hr
 ·cases hi
theorem Ue (l:List (EK.C J4)):HE (Ag J4 l)=some (@id (Ad) l):=by
 induction l with
 | nil=>rfl
 | cons a l ih=>
  show(match Pn (.int .u8 a),HE (Ag J4 l)with | some n,some l=>some (n::l) | _,_=>none)=_;rw[ih];rfl
theorem SF (h:AJ base W0 μ H W) {src dst:TypeId} {x x' v:Value} {H':AA} {t:VT} (hx:AH μ x x') (hi:FH P src dst x H=some t) (hr:t.run=some (v,H')):
 ∃μ' v' W',(convert src dst x').run P W= .ok v' W'/\AJ base W0 μ' H' W'/\AH μ' v v'/\Ap μ H μ' H':=by
 unfold FH at hi;split at hi
 ·rename_i b j n c;simp only[C5]at hi;subst hi;split at hr
  ·rename_i e l ro hu1 hu2 hb;split at hr
   ·rename_i hue;obtain⟨h1,hr⟩:=BA hr;obtain⟨rfl,hH'⟩:=BO hr;rw[hH'];have h1:=BE h1;rcases GI (k:=J4) h hb hx with⟨hx1,hnr,_⟩ | ⟨_,rfl,_,T0,a0,hm0,rfl⟩
    rotate_left
    ·refine⟨μ,.string ByteArray.empty,W,?_,h,?_,Ap.refl _ _⟩
     ·cases a0 with
      | none=>simp[convert,run_underlying hu1,run_underlying hu2,run_underlying hue,Conv.bytesToString]
      | some p=>
       have:=run_bytesToString (P:=P) W ⟨p.1,p.2,none⟩ 0 0 [] (by simp[loadCells,loadCellsFrom]);simp at this;simp[convert,run_underlying hu1,run_underlying hu2,run_underlying hue,this]
     ·rw[AAk];exact .string _
    have hdv:=h.Ls hb fun T hT hv=>hnr T hT hv.2.1
    have hg:(H.put b (.cells (Ag J4 l) J4.length ro)).get b=some (.cells (Ag J4 l) J4.length ro):=by rw[AA.AU,MB rfl]
    have hT:∃T,μ b=some T:=by cases hx with | Bk _ _ _ _ _ _ T hm _ _ _=>exact⟨T,hm⟩ | DW _ _ _ T _ hm _=>exact⟨T,hm⟩
    obtain⟨μ',v',W',r1,r2,r3,r4⟩:=KV (P:=P) hdv (src:=src) (dst:=dst) hx1 (v:= .string (Fy ((l.drop j).take n))) (H':=H.put b (.cells (Ag J4 l) J4.length ro)) (by
     unfold I8;simp only[hu1,hu2,hue];have hs:EM 1 (.slice (some ⟨b,j * J4.length,none⟩) n c) (H.put b (.cells (Ag J4 l) J4.length ro))=some (n,Ag J4 ((l.drop j).take n)):=by
      unfold EM;cases hz:Nat.beq (n * 1) 0
      ·simp only[hz,EB,hg];have e1:((Ag J4 l).drop (j * J4.length)).take (n * 1)=Ag J4 ((l.drop j).take n):=by rw[Ei];exact D8 J4 n _
       have hll:(Ag J4 ((l.drop j).take n)).length=n * 1:=by
        rw[BH,Rg,Tx,rH (by omega)];rfl
       rw[e1,hll,VX];rfl
      ·simp only[hz,C8];have hz:=DN hz;have:n=0:=by omega
       subst this;rfl
     rw[hs];simp only[Ue];rfl)
    cases r3
    refine⟨μ',_,W',r1,?_,.string _,?_⟩
    ·have:=r2.JF (b:=b) (k:=J4) (l:=l) (ro:=ro) hg;refine this.congr (fun q=>?_) rfl;simp only[AA.AU]
     by_cases e:q=b
     ·subst e;simp[hb]
     ·simp[e]
    ·obtain⟨T,hT⟩:=hT;refine r4.congr (fun q _ hm=>?_) (fun q _ hm=>?_) rfl rfl<;>
     ·have:q≠b:=by rintro rfl;rw[hT]at hm;cases hm
      rw[AA.AU,JT this]
   ·cases hr
  ·cases hr
 ·rename_i s;split at hi
  ·rename_i e hu1 hu2;split at hi
   ·rename_i hue;simp only[C5]at hi;subst hi;obtain⟨rfl,rfl⟩:=BO hr;obtain⟨μ',v',W',r1,r2,r3,r4⟩:=KV (P:=P) h (src:=src) (dst:=dst) hx (v:= .slice (some ⟨H.next,0,none⟩) s.size (Aa+s.size)) (H':=H.alloc (.cells (Ag J4 (B1 s)) J4.length false)) (by
     unfold I8;simp only[hu1,hu2,hue,XQ];rfl)
    obtain⟨g1,g2⟩:=F4 (k:=J4) (by decide) (H1:=H) r2 r3 (fun _ _=>rfl) rfl;refine⟨μ',v',W',r1,g1,g2,r4.congr (fun _ _ _=>rfl) (fun q hq _=>?_) rfl rfl⟩;rw[AA.AM,AA.AM,JT (by omega),JT (by omega)]
   ·cases hi
  ·cases hi
 ·cases hi
theorem Rd (h:AJ base W0 μ H W) {t:TypeId} {s:As} {x' ix ix' v:Value} {H':AA} (hx:AH μ (.string s) x') (hix:AH μ ix ix') (hi:(Gi P t s ix H).run=some (v,H')):
 H'=H/\∃v',(Instr.index t x' ix').run P W= .ok v' W/\AH μ v v':=by
 unfold Gi at hi;split at hi
 ·rename_i kd m hu;obtain⟨h1,hr⟩:=BA hi;obtain⟨rfl,rfl⟩:=BO hr;simp only[Dg,TL]at h1;obtain⟨q,rfl⟩:∃q:Nat,m=Int.ofNat q:=⟨m.toNat,NB h1.1⟩
  have hlt:q < s.size:=BE h1.2;refine⟨rfl,OO hx hix ?_⟩;unfold RF;simp only[Ow,hu];have hl:q < s.data.toList.length:=by simpa using hlt
  have:s.data.toList[q]? = some (s.data.toList.getD q 0):=by
   rw[Kd,Jj hl];rfl
  simp only[this];rfl
 ·cases hi
theorem kO {v:Value} (h:aY v=true):v= .int .u32 (kn v):=by
 unfold aY at h;split at h
 ·rfl
 ·cases h
theorem Q3 (h:AJ base W0 μ H W) {t:TypeId} {xs:BR} {x' ix ix' v:Value} {H':AA} {T:VT} (hx:AH μ (.agg xs) x') (hix:AH μ ix ix') (ht:ES P t xs.toList ix H=some T) (hi:T.run=some (v,H')):
 H'=H/\∃v',(Instr.index t x' ix').run P W= .ok v' W/\AH μ v v':=by
 unfold ES at ht;split at ht
 ·rename_i n e kd m hu;split at ht
  ·rename_i sz hue hsz;cases hb:Nat.beq sz 1
   ·simp only[hb,EB]at ht;cases ht
   ·simp only[hb,C8,C5]at ht;subst ht;have hb:=DN hb;subst hb;obtain⟨h1,hr⟩:=BA hi;obtain⟨rfl,rfl⟩:=BO hr;simp only[Dg,TL]at h1;obtain⟨⟨h1,h2⟩,h3⟩:=h1;obtain⟨q,rfl⟩:∃q:Nat,m=Int.ofNat q:=⟨m.toNat,NB h1⟩
    refine⟨rfl,OO hx hix ?_⟩;unfold RF;have h2:Nat.blt q n=true:=h2;have h3:aY (xs.toList.getD q Bv)=true:=h3;simp only[Ow,hu,hsz,h2,C8];unfold Wv;have hd:E4 (.int .u32)=false:=rfl;simp only[hue,hsz,hd,EB,AAo];have hq:q < xs.toList.length:=by
     rcases U1 q xs.toList.length with hq | hq
     ·exact hq
     ·rw[Kd,T6 hq]at h3;cases h3
    have he:xs.toList[q]? = some (xs.toList.getD q Bv):=by
     rw[Kd,Jj hq];rfl
    rw[he];exact congrArg some (kO h3)
  ·cases ht
 ·cases ht
theorem Xt (h:AJ base W0 μ H W) {it it' v:Value} {isString:Bool} {ty:TypeId} {H':AA} {t:VT} (hx:AH μ it it') (hi:Yg it isString H=some t) (hr:t.run=some (v,H')):
 ∃v' W',(Instr.next it' isString ty).run P W= .ok v' W'/\AJ base W0 μ H' W'/\AH μ v v'/\Ap μ H μ H':=by
 refine VA h hx ?_;unfold Yg at hi;unfold ak;split at hi
 ·split at hi
  ·rename_i s pos hg;simp only[C5]at hi;subst hi;simp only[hg];cases hb:Nat.blt pos s.size
   ·simpa [VT.run,hb] using hr
   ·simpa [VT.run,hb] using hr
  ·cases hi
 ·cases hi
theorem c7 (h:AJ base W0 μ H W) {op:BinOp} {ty:TypeId} {px py:Operand} {x x' y y' v:Value} {H':AA} {t:VT} (hx:AH μ x x') (hy:AH μ y y') (hi:NM op x y H=some t) (hr:t.run=some (v,H')):
 H'=H/\∃v',(do eqGuard op ty px py x' y';binOp op ty x' y':Sem Value).run P W= .ok v' W/\AH μ v v':=by
 unfold NM at hi;split at hi
 ·rename_i k a k' b;cases hk:decide (k=k')
  ·simp only[hk,EB]at hi;cases hi
  ·simp only[hk,C8,C5]at hi;have hk:=rM hk;subst hk hi;obtain⟨h1,hr⟩:=BA hr;obtain⟨rfl,rfl⟩:=BO hr;have h1:=rM h1;cases hx;cases hy
   exact⟨rfl,_,by simp[eqGuard,binOp,Op.intDiv,h1],.int _ _⟩
 ·rename_i k a k' b;cases hk:decide (k=k')
  ·simp only[hk,EB]at hi;cases hi
  ·simp only[hk,C8,C5]at hi;have hk:=rM hk;subst hk hi;obtain⟨h1,hr⟩:=BA hr;obtain⟨rfl,rfl⟩:=BO hr;have h1:=rM h1;cases hx;cases hy
   exact⟨rfl,_,by simp[eqGuard,binOp,Op.intDiv,h1],.int _ _⟩
 ·rename_i k a k' b;simp only[C5]at hi;subst hi;obtain⟨h1,hr⟩:=BA hr;obtain⟨rfl,rfl⟩:=BO hr;have h1:=rM h1;cases hx;cases hy
  exact⟨rfl,_,by simp[eqGuard,binOp,Op.shift,Int.not_lt.2 h1],.int _ _⟩
 ·rename_i k a k' b;simp only[C5]at hi;subst hi;obtain⟨h1,hr⟩:=BA hr;obtain⟨rfl,rfl⟩:=BO hr;have h1:=rM h1;cases hx;cases hy
  exact⟨rfl,_,by simp[eqGuard,binOp,Op.shift,Int.not_lt.2 h1],.int _ _⟩
 ·rename_i a b;simp only[C5]at hi;subst hi;obtain⟨h1,hr⟩:=BA hr;obtain⟨rfl,rfl⟩:=BO hr;cases hx;cases hy
  refine⟨rfl,_,?_,.string _⟩;have h2:a.size+b.size<=9223372036854775807:=BE h1;have:¬((a.size+b.size:Nat):Int) > IntKind.i64.max:=by
   have h3:IntKind.i64.max=9223372036854775807:=rfl;omega
  simp only[eqGuard,binOp,Op.stringOp];rw[JT this];simp
 ·cases hi
theorem L7 {e:TypeId} {D:TypeDesc} (hu:P.underlying e=some D) (hD:E4 D=false) {xs:BR} {off:Nat} {v:Value} (hx:xs[off]? = some v) (W:World):(part e xs off).run P W= .ok v W:=by
 simp only[part,Sem.run_bind,Jp hu,hD,Result.andThen_ok,Bool.false_eq_true,ABC,hx,Sem.run_pure]
theorem RZ (xs ys xs' ys':BR) (hx:Am μ xs.toList xs'.toList) (hy:Am μ ys.toList ys'.toList):∀(fs:List Field) (b:Bool),dW P fs xs.toList ys.toList=some b->(Op.eqFields 9999 xs' ys' fs).run P W= .ok b W
 | [],b,h=>by cases h;rfl
 | f::fs,b,h=>by
  simp only[dW]at h;cases hn:(f.name== "_")
  rotate_left
  ·simp only[hn,C8]at h;cases h
  simp only[hn,EB]at h;have hn:f.name≠ "_" := by intro e;rw[e]at hn;simp at hn
  have key:∀{D:TypeDesc} (hu:P.underlying f.type=some D) (hD:E4 D=false) {u v u' v':Value} (h1:xs'[f.offset]? = some u') (h2:ys'[f.offset]? = some v') {c r:Bool} (he:(Op.equalIn 9999 f.type u' v').run P W= .ok c W) (hr:dW P fs xs.toList ys.toList=some r),
   (Op.eqFields 9999 xs' ys' (f::fs)).run P W= .ok (c&&r) W:=by
   intro D hu hD u v u' v' h1 h2 c r he hr;have ih:=RZ xs ys xs' ys' hx hy fs r hr;simp only[Op.eqFields,MB hn,Sem.run_bind,L7 hu hD h1,L7 hu hD h2,Result.andThen_ok,he];cases c
   ·rfl
   ·simpa using ih
  split at h
  ·rename_i kk k a k' b' r h1 h2 h3 h4;cases hk:decide (k=k')
   ·simp only[hk,EB]at h;cases h
   simp only[hk,C8,C5]at h;subst h;have hk:=rM hk;subst hk;obtain⟨u',e1,e2⟩:=hx.get? h2;obtain⟨v',e3,e4⟩:=hy.get? h3;cases e2;cases e4
   exact key h1 rfl (u:= .int k a) (v:= .int k b') (by simpa using e1) (by simpa using e3) (run_equalIn_int W 9998 _ k _ a b' h1) h4
  ·rename_i a b' r h1 h2 h3 h4;cases h
   obtain⟨u',e1,e2⟩:=hx.get? h2;obtain⟨v',e3,e4⟩:=hy.get? h3;cases e2;cases e4
   exact key h1 rfl (u:= .bool a) (v:= .bool b') (by simpa using e1) (by simpa using e3) (run_equalIn_bool' W 9998 _ a b' h1) h4
  ·rename_i a b' r h1 h2 h3 h4;cases h
   obtain⟨u',e1,e2⟩:=hx.get? h2;obtain⟨v',e3,e4⟩:=hy.get? h3;cases e2;cases e4
   exact key h1 rfl (u:= .string a) (v:= .string b') (by simpa using e1) (by simpa using e3) (run_equalIn_string W 9998 _ a b' h1) h4
  ·cases h
theorem Y8 {op:BinOp} {ty:TypeId} {px py:Operand} {x x' y y' v:Value} (hx:AH μ x x') (hy:AH μ y y') (hi:Zf P op ty x y=some v):
 (do eqGuard op ty px py x' y';binOp op ty x' y':Sem Value).run P W= .ok v W/\AH μ v v:=by
 unfold Zf at hi;split at hi
 ·rename_i xs ys;split at hi
  ·rename_i fs hu;cases hc:(!P.stoodInHeld ty&& !P.eqGuardType P.depth ty)
   ·simp only[hc,EB]at hi;cases hi
   simp only[hc,C8,GS]at hi;obtain⟨b,hb,rfl⟩:=hi;simp only[Dg,sd]at hc;obtain⟨xs',rfl,rx⟩:=AH.Ce.1 hx;obtain⟨ys',rfl,ry⟩:=AH.Ce.1 hy;have hf:P.fieldsOf ty=fs:=by simp only[Program.fieldsOf,hu]
   have h0:=run_equalIn_struct (P:=P) W 9999 ty xs' ys' (by rw[hf];exact hu) hc.1;rw[hf,RZ xs ys xs' ys' rx ry fs.toList b hb]at h0;simp only[Sem.run_bind,run_eqGuard_agg (P:=P) W .eql ty px py xs' ys' hc.2,Result.andThen_ok,run_eql_struct (P:=P) W ty xs' ys',h0];exact⟨trivial,.bool b⟩
  ·cases hi
 ·rename_i xs ys;split at hi
  ·rename_i fs hu;cases hc:(!P.stoodInHeld ty&& !P.eqGuardType P.depth ty)
   ·simp only[hc,EB]at hi;cases hi
   simp only[hc,C8,GS]at hi;obtain⟨b,hb,rfl⟩:=hi;simp only[Dg,sd]at hc;obtain⟨xs',rfl,rx⟩:=AH.Ce.1 hx;obtain⟨ys',rfl,ry⟩:=AH.Ce.1 hy;have hf:P.fieldsOf ty=fs:=by simp only[Program.fieldsOf,hu]
   have h0:=run_equalIn_struct (P:=P) W 9999 ty xs' ys' (by rw[hf];exact hu) hc.1;rw[hf,RZ xs ys xs' ys' rx ry fs.toList b hb]at h0;simp only[Sem.run_bind,run_eqGuard_agg (P:=P) W .neq ty px py xs' ys' hc.2,Result.andThen_ok,run_neq_struct (P:=P) W ty xs' ys',h0];exact⟨trivial,.bool _⟩
  ·cases hi
 ·cases hi
theorem Xm (h:AJ base W0 μ H W) {op:BinOp} {ty:TypeId} {px py:Operand} {x x' y y' v:Value} {H':AA} {t:VT} (hx:AH μ x x') (hy:AH μ y y') (hi:Jb P op ty x y H=some t) (hr:t.run=some (v,H')):
 H'=H/\∃v',(do eqGuard op ty px py x' y';binOp op ty x' y':Sem Value).run P W= .ok v' W/\AH μ v v':=by
 unfold Jb at hi;split at hi
 ·rename_i v0 he;cases hi
  cases hr
  obtain⟨h1,h2⟩:=Y8 (W:=W) (px:=px) (py:=py) hx hy he;exact⟨rfl,_,h1,h2⟩
 ·split at hi
  ·rename_i c r he;cases hi
   obtain⟨hc,hr⟩:=BA hr;obtain⟨rfl,rfl⟩:=BO hr;refine⟨rfl,.bool r,N5 ?_ W,.bool r⟩;unfold kt at he;split at he
   all_goals first | (cases he;done) | skip
   all_goals
    split at he
    ·rename_i hu;cases he
     have hn:=BE hc;cases hy
     cases hx with
     | Bk=>simp[IA,GG,Bn,hu]
     | DW=>omega
     | Cl=>simp[IA,GG,Bn,hu]
     | F9=>omega
    ·cases he
  ·exact c7 h hx hy hi hr
theorem VP {t:TypeId} {x x' ix' v:Value} {k:IntKind} {m:Int} {H':AA} (hx:AH μ x x') (hix:AH μ (.int k m) ix'):∀n,(YA P t x k m H n).run=some (v,H')->
 H'=H/\∃v',(Instr.indexAt t x' ix').run P W= .ok v' W/\AH μ v v'
 | 0,hr=>by cases hr
 | j+1,hr=>by
  unfold YA at hr;split at hr
  ·rename_i p h0;cases h2:(m== .ofNat j)
   ·rw[h2]at hr;exact VP hx hix j hr
   ·rw[h2]at hr;cases hr
    have e:=eq_of_beq h2;subst e;exact⟨rfl,Gu hx hix h0⟩
  ·cases hr
theorem cQ {t:TypeId} {x x' ix ix' v:Value} {H':AA} {tr:VT} (hx:AH μ x x') (hix:AH μ ix ix') (hi:Mn P t x ix H=some tr) (hr:tr.run=some (v,H')):
 H'=H/\∃v',(Instr.indexAt t x' ix').run P W= .ok v' W/\AH μ v v':=by
 unfold Mn at hi;split at hi
 ·rename_i b off n c k m;cases hn:Nat.ble n 12
  ·simp only[hn,EB]at hi;cases hi
  ·simp only[hn,C8,C5]at hi;subst hi;exact VP hx hix n hr
 ·cases hi
theorem Mq {ρ':Operand->Value} {o:Oper} {c:Call} {b:Builtin} (ho:o.op= .call c) (hcal:c.callee= .builtin b):∃cst,execOp ρ' o=builtin b c.argTypes o.type cst (c.args.map ρ'):=by
 simp only[execOp,ho,resolve,hcal];exact⟨_,rfl⟩
theorem VM (_h:AJ base W0 μ H W) {ρ':Operand->Value} {o:Oper} {t:TypeId} (_ho:o.op= .alloc t) {x:VT} {v:Value} {H':AA} (hi:Tt P t H=some x) (_hr:x.run=some (v,H')):
 CQ P base W0 μ H W (execOp ρ' o) v H':=by
 have hi:(none:Option VT)=some x:=hi;cases hi
theorem RY {μ:Ae}:∀(n:Nat) {a b:AL},Am μ a b->Am μ (a.take n) (b.take n)
 | 0,_,_,_=> .nil
 | _+1,_,_,.nil=> .nil
 | n+1,_,_,.cons h1 h2=> .cons h1 (RY n h2)
theorem ZF (h:AJ base W0 μ H W) {t:TypeId} {len len' cap cap' v:Value} {x:VT} {H':AA} (hl:AH μ len len') (hc:AH μ cap cap') (hi:UM P t len cap H=some x) (hr:x.run=some (v,H')):
 ∃μ' v' W',(Instr.makeSlice t len' cap').run P W= .ok v' W'/\AJ base W0 μ' H' W'/\AH μ' v v'/\Ap μ H μ' H':=by
 unfold UM at hi;cases hb:II P t
 ·rw[hb]at hi;cases hi
 ·rw[hb]at hi;simp only[C8]at hi;unfold II at hb;split at hb
  ·rename_i e hu;split at hb
   ·rename_i hue hke hze;split at hb
    ·rename_i i hie;simp only[Dg]at hb;have hi1:=DN hb.1;have hi2:=DN hb.2;split at hi
     ·rename_i n c;simp only[C5]at hi;subst hi;obtain⟨q,hr2⟩:=BA hr;obtain⟨rfl,rfl⟩:=BO hr2;simp only[Dg,TL]at q;obtain⟨⟨q0,q1⟩,q3⟩:=q;cases hl;cases hc
      obtain⟨C,rfl⟩:∃C:Nat,c=Int.ofNat C:=⟨c.toNat,by simp;omega⟩
      obtain⟨m,rfl⟩:∃m:Nat,n=Int.ofNat m:=⟨n.toNat,by simp;omega⟩
      have q2:m<=C:=Int.ofNat_le.1 q1;have q3:C<=140737488355328:=by have:(C:Int)<=140737488355328:=q3;omega
      have hcnd:(Nat.ble m C&&Nat.ble (i.bytes * C) 281474976710656&&Nat.blt C 9223372036854775808)=true:=by
       rw[hi2,Dg,Dg];exact⟨⟨Ez q2,Ez (by omega)⟩,Ez (show C+1<=9223372036854775808 by omega)⟩
      obtain⟨o',T,hrun,hT,ho⟩:=Gr (P:=P) (μ:=μ) (W:=W) (k1:= .u8) (k2:= .u8) hu hie hze hcnd;have hzz:Dn [.int .u8 0] (C * i.size)=List.replicate C (.int .u8 0):=by
       rw[hi1,AAo];exact Qs C (.int .u8 0)
      rw[hzz,hi1]at ho;have htn:(Int.ofNat m).toNat=m:=rfl;rw[htn];cases ho with
      | cells cs e2 ro c t2 lo hi he hc2 hr3 hf=>
       have hlen:C<=T.r:=by
        have:=hc2.length;rw[YC,Rg,Tx,ax]at this;omega
       have henc:Ag J4 (List.replicate m (0:Int))=(List.replicate C (Value.int .u8 0)).take m:=by
        rw[List.take_replicate,rH q2,S1]
       have hvec:CZ μ T (.vec J4 (List.replicate m (0:Int)) false) (.cells c t2 (lo,hi)):= .vec T J4 _ false _ (.cells T _ _ _ c t2 lo hi he (by
        have h1:=RY m hc2;rw[<-henc,tV]at h1;have e1:min m (List.replicate C (Value.int .u8 0)).length=(Ag J4 (List.replicate m (0:Int))).length:=by
         rw[YC,BH,YC];show min m C=m * 1;omega
        rw[e1]at h1;exact h1) hr3 hf)
       obtain⟨g1,g2⟩:=h.alloc hT.1 hvec;refine⟨_,_,_,hrun,g1,?_,g2⟩;rw[<-hT.1]
       by_cases hr0:T.r=0
       ·have hm0:m=0:=by omega
        have hc0:C=0:=by omega
        subst hm0;rw[hc0];exact .DW H.next 0 Aa T (some (T.c,0)) (Ae.Af _ _ _) (.inr ⟨GO _,me _⟩)
       refine .Bk H.next 0 m Aa C 0 T (Ae.Af _ _ _) (.inr ⟨GO _,by omega,q2,by rw[<-he];omega,.inl he.symm⟩) (.inl (by rw[hT.2];simp)) hr0
     ·rename_i k1 k2 c Pu;simp only[C5]at hi;subst hi;obtain⟨q,hr2⟩:=BA hr;obtain⟨rfl,rfl⟩:=BO hr2;simp only[Dg,TL]at q;obtain⟨q1,q3⟩:=q;cases hl;cases hc
      obtain⟨C,rfl⟩:∃C:Nat,c=Int.ofNat C:=⟨c.toNat,by simp;omega⟩
      have q2:0<=C:=ay _;have q3:C<=140737488355328:=by have:(C:Int)<=140737488355328:=q3;omega
      have hcnd:(Nat.ble 0 C&&Nat.ble (i.bytes * C) 281474976710656&&Nat.blt C 9223372036854775808)=true:=by
       rw[hi2,Dg,Dg];exact⟨⟨Ez q2,Ez (by omega)⟩,Ez (show C+1<=9223372036854775808 by omega)⟩
      obtain⟨o',T,hrun,hT,ho⟩:=Gr (P:=P) (μ:=μ) (W:=W) (k1:=k1) (k2:=k2) hu hie hze hcnd;have hzz:Dn [.int .u8 0] (C * i.size)=List.replicate C (.int .u8 0):=by
       rw[hi1,AAo];exact Qs C (.int .u8 0)
      rw[hzz,hi1]at ho;cases ho with
      | cells cs e2 ro c t2 lo hi he hc2 hr3 hf=>
       have hlen:C<=T.r:=by
        have:=hc2.length;rw[YC,Rg,Tx,ax]at this;omega
       have hvec:CZ μ T (.vec J4 [] false) (.cells c t2 (lo,hi)):= .vec T J4 _ false _ (.cells T _ _ _ c t2 lo hi he (by simp[Ag];exact .nil) hr3 hf);obtain⟨g1,g2⟩:=h.alloc hT.1 hvec;refine⟨_,_,_,hrun,g1,?_,g2⟩;have hce:Aa=18446744073709551616:=by unfold Aa;rfl
       rw[<-hT.1]
       by_cases hr0:T.r=0
       ·have hc0:C=0:=by omega
        rw[hc0];exact .DW H.next 0 Aa T (some (T.c,0)) (Ae.Af _ _ _) (.inr ⟨GO _,me _⟩)
       refine .Bk H.next 0 0 Aa C 0 T (Ae.Af _ _ _) (.inr ⟨GO _,by omega,q2,by rw[<-he];omega,.inl he.symm⟩) (.inl (by rw[hT.2];simp)) hr0
     ·cases hi
    ·cases hb
   ·cases hb
  ·cases hb
theorem TM {k:EK} {z:AL} {x:EK.C k} (hx:EK.enc k x=z) (hl:z.length=k.length):∀n,Dn z (n * z.length)=Ag k (List.replicate n x)
 | 0=>by rw[ABp];rfl
 | n+1=>by
  have ih:=TM hx hl n;rw[List.replicate_succ'];rw[Cj,<-ih];have hone:Ag k [x]=z:=by unfold Ag;simp[hx]
  rw[hone];unfold Dn;rw[AAT,List.range_add,ABZ]
  congr 1
  rw[AAw];apply List.ext_getElem
  ·simp
  ·intro i h1 h2;have hi:i < z.length:=h2;simp only[List.getElem_map,List.getElem_range,Function.comp];rw[ABi,Nat.add_mul_mod_self_right,Nat.mod_eq_of_lt hi,Kd,Jj hi];rfl
theorem Wj (h:AJ base W0 μ H W) {argTypes:Array TypeId} {args:AL} {args':BR} {ty:TypeId} {v:Value} {H':AA} {t:VT} (ha:Am μ args args'.toList) (hi:Um P argTypes args H=some t) (hr:t.run=some (v,H')):
 ∃μ' v' W',(Builtin.clear_ argTypes ty args').run P W= .ok v' W'/\AJ base W0 μ' H' W'/\AH μ' v v'/\Ap μ H μ' H':=by
 unfold Um at hi;split at hi
 ·rename_i tt rest b j n c hty;split at hi
  ·rename_i e k l hu hb;split at hi
   ·rename_i z hz;split at hi
    ·rename_i x hx;have hx:=EK.Ig _ _ _ hx;cases hc:(Nat.beq z.length k.length&&z.all Bh)
     ·simp only[hc,EB,C5]at hi;subst hi;cases hr
     ·simp only[hc,C8,C5]at hi;subst hi
      simp only[Dg]at hc;have hzl:=DN hc.1;obtain⟨s',rfl,hs⟩:=aB ha rfl;cases hn0:Nat.beq n 0
      ·simp only[VT.run,hn0,EB]at hr;cases hble:Nat.ble (j+n) l.length
       ·rw[hble]at hr;cases hr
       rw[hble]at hr;simp only[C8,C5,Si]at hr;obtain⟨rfl,rfl⟩:=hr;have h1:j+n<=l.length:=BE hble;have hn:n≠0:=by intro e1;rw[e1]at hn0;cases hn0
       have hdv:=h.Ls hb fun T _=>QL (by omega)
       have hg:(H.put b (.cells (Ag k l) k.length false)).get b=some (.cells (Ag k l) k.length false):=by rw[AA.AU,MB rfl]
       have hT:∃T,μ b=some T:=by cases hs with | Bk _ _ _ _ _ _ T hm=>exact⟨T,hm⟩ | DW _ _ _ T _ hm=>exact⟨T,hm⟩ 
       have hflat:=(GI h hb hs).elim (fun q=>q.1) fun q=>absurd q.2.1 hn
       have hze:=TM hx hzl n;have hlen:j * k.length+(Ag k (List.replicate n x)).length<=(Ag k l).length:=by
        rw[BH,BH,YC,<-sx];exact di _ h1
       have hall:(Ag k (List.replicate n x)).all Bh=true:=by
        rw[AAW];intro y hy;unfold Ag at hy;obtain⟨p,hp,hy⟩:=List.mem_flatMap.1 hy;rw[AAx hp,hx]at hy;exact List.all_eq_true.1 hc.2 y hy
       have hspl:Bi (Ag k l) (j * k.length) (Ag k (List.replicate n x))=Ag k (l.take j++(List.replicate n x++l.drop (j+n))):=by
        unfold Bi;rw[Cj,Cj,BH,YC,D8,<-sx,Ei]
       have hs2:L9 P argTypes [.slice (some ⟨b,j * k.length,none⟩) n c] (H.put b (.cells (Ag k l) k.length false))=some (Go.undef,(H.put b (.cells (Ag k l) k.length false)).put b (.cells (Ag k (l.take j++(List.replicate n x++l.drop (j+n)))) k.length false)):=by
        unfold L9;simp only[hty,hu,hn0,EB,hz,hg,hze,hall,Ez hlen,yV,C8,hspl]
       obtain⟨v',W',r1,r2,r4,r3⟩:=Nq (P:=P) (ty:=ty) hdv (args':=#[s']) (.cons hflat .nil) hs2;refine⟨μ,v',W',r1,?_,r4,?_⟩
       ·have:=r2.JF (b:=b) (k:=k) (l:=l.take j++(List.replicate n x++l.drop (j+n))) (ro:=false) (by rw[AA.AU,MB rfl]);refine this.congr (fun j=>?_) rfl;simp only[AA.AU];split<;>rfl
       ·obtain⟨T,hT⟩:=hT;refine r3.congr (fun j _ hj=>?_) (fun j _ hj=>?_) rfl rfl
        ·rw[AA.AU,JT];rintro rfl;rw[hT]at hj;cases hj
        ·simp only[AA.AU];have:j≠b:=by rintro rfl;rw[hT]at hj;cases hj
         simp[this]
      ·have e0:=DN hn0;subst e0;simp only[VT.run,VX,C8,C5,Si]at hr;obtain⟨rfl,rfl⟩:=hr;have hs2:L9 P argTypes [.slice (some ⟨b,0,some j⟩) 0 c] H=some (Go.undef,H):=by
        unfold L9;simp only[hty,hu];rfl
       obtain⟨v',W',r1,r2,r4,r3⟩:=Nq (P:=P) (ty:=ty) h (args':=#[s']) (.cons hs .nil) hs2;exact⟨μ,v',W',r1,r2,r4,r3⟩
    ·simp only[C5]at hi;subst hi;cases hr
   ·simp only[C5]at hi;subst hi;cases hr
  ·simp only[C5]at hi;subst hi;cases hr
 ·cases hi
theorem nN (h:AJ base W0 μ H W) {ρ ρ':Operand->Value} (hρ:∀x,AH μ (ρ x) (ρ' x)) {o:Oper} {v:Value} {H':AA} {t:VT} (hi:Uu P ρ o H=some t) (hr:t.run=some (v,H')):CQ P base W0 μ H W (execOp ρ' o) v H':=by
 unfold Uu at hi;split at hi
 ·rename_i t a ho;split at hi
  ·rename_i b off i hp;simp only[C5]at hi;subst hi;have ha:=hρ a;rw[hp]at ha;obtain⟨rfl,hv⟩:=ZZ h ha hr;have he:execOp ρ' o=(do pure (.value (←Instr.loadAt t (ρ' a)))):=by simp only[execOp,ho]
   rw[he];exact CQ.value h hv
  ·cases hi
 ·rename_i t a x ho;split at hi
  ·rename_i b off i hp;simp only[C5]at hi;subst hi;have ha:=hρ a;rw[hp]at ha;obtain⟨rfl,W',h1,h2,h3⟩:=WU h ha (hρ x) hr;exact⟨μ,.skip,Go.undef,W',by simp[execOp,ho,h1],.inr ⟨rfl,rfl⟩,h2,AH.undef μ,h3⟩
  ·cases hi
 ·rename_i t x i ho;split at hi
  ·rename_i b j n c hp;simp only[C5]at hi;subst hi;have ha:=hρ x;rw[hp]at ha;obtain⟨rfl,hv⟩:=PI h ha (hρ i) hr;have he:execOp ρ' o=(do pure (.value (←Instr.indexAt t (ρ' x) (ρ' i)))):=by simp only[execOp,ho]
   rw[he];exact CQ.value h hv
  ·rename_i b j hp;simp only[C5]at hi;subst hi;have ha:=hρ x;rw[hp]at ha;obtain⟨rfl,hv⟩:=Qg h ha (hρ i) hr;have he:execOp ρ' o=(do pure (.value (←Instr.indexAt t (ρ' x) (ρ' i)))):=by simp only[execOp,ho]
   rw[he];exact CQ.value h hv
  ·obtain⟨rfl,hv⟩:=cQ (P:=P) (W:=W) (hρ x) (hρ i) hi hr;have he:execOp ρ' o=(do pure (.value (←Instr.indexAt t (ρ' x) (ρ' i)))):=by simp only[execOp,ho]
   rw[he];exact CQ.value h hv
 ·rename_i t x i ho;split at hi
  ·rename_i s hp;simp only[C5]at hi;subst hi;have ha:=hρ x;rw[hp]at ha;obtain⟨rfl,hv⟩:=Rd h ha (hρ i) hr;have he:execOp ρ' o=(do pure (.value (←Instr.index t (ρ' x) (ρ' i)))):=by simp only[execOp,ho]
   rw[he];exact CQ.value h hv
  ·rename_i xs hp;have ha:=hρ x;rw[hp]at ha;obtain⟨rfl,hv⟩:=Q3 h ha (hρ i) hi hr;have he:execOp ρ' o=(do pure (.value (←Instr.index t (ρ' x) (ρ' i)))):=by simp only[execOp,ho]
   rw[he];exact CQ.value h hv
  ·cases hi
 ·rename_i s x k ho;split at hi
  ·rename_i b off i hp;simp only[C5]at hi;subst hi;have ha:=hρ x;rw[hp]at ha;obtain⟨rfl,hv⟩:=PQ h ha hr;have he:execOp ρ' o=(do pure (.value (←Instr.fieldAt s (ρ' x) k))):=by simp only[execOp,ho]
   rw[he];exact CQ.value h hv
  ·cases hi
 ·rename_i t x lo hi2 ho;have he:execOp ρ' o=(do pure (.value (←Instr.sliceAt t (ρ' x) (lo.map ρ') (hi2.map ρ') none))):=by simp only[execOp,ho];rfl
  have hx:=hρ x;split at hi
  ·rename_i s hp;simp only[C5]at hi;subst hi;rw[hp]at hx;obtain⟨rfl,hv⟩:=RU h hx (HZ hρ lo) (HZ hρ hi2) hr;rw[he];exact CQ.value h hv
  ·rename_i b j n c hp;simp only[C5]at hi;subst hi;rw[hp]at hx;obtain⟨rfl,hv⟩:=Wx h hx (HZ hρ lo) (HZ hρ hi2) hr;rw[he];exact CQ.value h hv
  ·cases hi
 ·rename_i t x lo hi2 m ho;have he:execOp ρ' o=(do pure (.value (←Instr.sliceAt t (ρ' x) (lo.map ρ') (hi2.map ρ') (some (ρ' m))))):=by simp only[execOp,ho];rfl
  have hx:=hρ x;split at hi
  ·rename_i b j n c hp;simp only[C5]at hi;subst hi;rw[hp]at hx;obtain⟨rfl,hv⟩:=Uq h hx (HZ hρ lo) (HZ hρ hi2) (hρ m) hr;rw[he];exact CQ.value h hv
  ·cases hi
 ·rename_i it s ho;have he:execOp ρ' o=(do pure (.value (←Instr.next (ρ' it) s o.type))):=by simp only[execOp,ho]
  rw[he];obtain⟨v',W',h1,h2,h3,h4⟩:=Xt (P:=P) (ty:=o.type) h (hρ it) hi hr;exact CQ.GY ⟨μ,v',W',h1,h2,h3,h4⟩
 ·rename_i op t x y yt ho;obtain⟨rfl,hv⟩:=Xm (P:=P) (ty:=t) (px:=x) (py:=y) h (hρ x) (hρ y) hi hr;have he:execOp ρ' o=(do pure (.value (←(do eqGuard op t x y (ρ' x) (ρ' y);binOp op t (ρ' x) (ρ' y))))):=by simp only[execOp,ho]
  rw[he];exact CQ.value h hv
 ·rename_i s d x ho;have he:execOp ρ' o=(do pure (.value (←convert s d (ρ' x)))):=by simp only[execOp,ho]
  rw[he];exact CQ.GY (SF h (hρ x) hi hr)
 ·rename_i c ho;split at hi
  ·rename_i hcal;have hargs:Am μ (c.args.toList.map ρ) (c.args.map ρ').toList:=by
    rw[re];exact Am.map _ _ _ fun x _=>hρ x
   obtain⟨cst,hex⟩:=Mq (ρ':=ρ') ho hcal;rw[hex];exact CQ.GY (Tl h hargs hi hr)
  ·rename_i hcal;have hargs:Am μ (c.args.toList.map ρ) (c.args.map ρ').toList:=by
    rw[re];exact Am.map _ _ _ fun x _=>hρ x
   obtain⟨cst,hex⟩:=Mq (ρ':=ρ') ho hcal;rw[hex];exact CQ.GY (Wj h hargs hi hr)
  ·cases hi
 ·rename_i t0 ho;exact VM h ho hi hr
 ·rename_i t0 l0 c0 ho;have he:execOp ρ' o=(do pure (.value (←Instr.makeSlice t0 (ρ' l0) (ρ' c0)))):=by simp only[execOp,ho]
  rw[he];exact CQ.GY (ZF h (hρ l0) (hρ c0) hi hr)
 ·cases hi
theorem aW (h:AJ base W0 μ H W) {ρ ρ':Operand->Value} (hρ:∀x,AH μ (ρ x) (ρ' x)) {o:Oper} {v:Value} {H':AA} (hi:ML P ρ o H=some (v,H')):CQ P base W0 μ H W (execOp ρ' o) v H':=by
 unfold ML at hi;split at hi
 ·rename_i t ht;exact nN h hρ ht hi
 ·exact jA h hρ hi
end
inductive PE where
 | op (i:Nat) (o:Oper)
 | SQ (i:Nat) (o:Oper)
inductive B9 where
 | code (c:Code)
 | inBlock (id:Nat)
 | inLoop (body:Code)
 | inScope (body:Code)
 | Kr (ops:Array Oper) (l:List Oper)
 | Ee (ops:Array Oper) (BJ:List PE)
 | inRangeFunc (loop:Nat)
 | endRangeFunc (loop:Nat)
 | beginRound
structure Aj where
 fn:FuncId
 tmps:Tr Value
 n:Nat
 todo:List B9
 defers:List Deferred
 ret:Bool
 kind:CallKind
 round:Option Nat
structure BT where
 fr:Aj
 cs:List Aj
 H:AA
abbrev DO:=AL->AA->Option (Value × AA)
structure Ctx where
 P:Program
 laid:Co
 IN:FuncId->Option DO
 BJ:Array Oper->Option (List PE)
def Bt (X:Ctx) (t:Tr Value):Operand->Value
 | .tmp i=>look t i
 | .const v=>bif flat v then v else Bv
 | .global g=>bif X.laid.any (fun p=>Nat.beq g p.1)then .pointer (some ⟨g,0,none⟩)else Bv
 | .func f=> .func (.func f) ⟨[]⟩ ⟨[]⟩
def Tz:Option Addr->Option Addr->Bool
 | none,none=>true
 | some ⟨b,o,none⟩,some ⟨c,p,none⟩=>Nat.beq b c&&Nat.beq o p
 | some ⟨b,o,some i⟩,some ⟨c,p,some j⟩=>Nat.beq b c&&Nat.beq o p&&Nat.beq i j
 | _,_=>false
def Yi:Fn->Fn->Bool
 | .func f,.func g=>Nat.beq f g
 | .yield f,.yield g=>Nat.beq f g
 | _,_=>false
def Yu:Option Nat->Option Nat->Bool
 | none,none=>true
 | some a,some b=>Nat.beq a b
 | _,_=>false
def KC (f:Value->Value->Bool):AL->AL->Bool
 | [],[]=>true
 | a::l,b::m=>f a b&&KC f l m
 | _,_=>false
def Jw:Nat->Value->Value->Bool
 | 0,_,_=>false
 | n+1,a,b=>match a,b with
  | .bool a,.bool b=>a==b
  | .int j a,.int k b=>decide (j=k)&&decide (a=b)
  | .string a,.string b=>a.data.toList==b.data.toList
  | .pointer a,.pointer b=>Tz a b
  | .slice a l c,.slice b m d=>Tz a b&&Nat.beq l m&&Nat.beq c d
  | .map a,.map b=>Yu a b
  | .nilFunc,.nilFunc=>true
  | .nilIface,.nilIface=>true
  | .iface t v,.iface u w=>Nat.beq t u&&Jw n v w
  | .agg a,.agg b=>KC (Jw n) a.toList b.toList
  | .tuple a,.tuple b=>KC (Jw n) a.toList b.toList
  | .func f a b,.func g c d=>Yi f g&&KC (Jw n) a.toList c.toList&&KC (Jw n) b.toList d.toList
  | _,_=>false
theorem Sb:∀{a b:Option Addr},Tz a b=true->a=b:=by
 intro a b h;unfold Tz at h;split at h
 ·rfl
 ·simp only[Dg]at h;rw[DN h.1,DN h.2]
 ·simp only[Dg]at h;rw[DN h.1.1,DN h.1.2,DN h.2]
 ·cases h
theorem c8 {a b:Fn} (h:Yi a b=true):a=b:=by
 unfold Yi at h;split at h
 ·rw[DN h]
 ·rw[DN h]
 ·cases h
theorem dZ {a b:Option Nat} (h:Yu a b=true):a=b:=by
 unfold Yu at h;split at h
 ·rfl
 ·rw[DN h]
 ·cases h
theorem JS {f:Value->Value->Bool} (hf:∀a b,f a b=true->a=b):∀(l m:AL),KC f l m=true->l=m
 | [],[],_=>rfl
 | a::l,b::m,h=>by
  simp only[KC,Dg]at h;rw[hf a b h.1,JS hf l m h.2]
 | [],_::_,h=>by simp[KC]at h
 | _::_,[],h=>by simp[KC]at h
theorem WH:∀(n:Nat) (a b:Value),Jw n a b=true->a=b:=by
 intro n;induction n with
 | zero=>intro a b h;simp[Jw]at h
 | succ n ih=>
  intro a b h;unfold Jw at h;split at h
  ·rw[eq_of_beq h]
  ·simp only[Dg,TL]at h;rw[h.1,h.2]
  ·rename_i a b;have:=Array.toList_inj.1 (eq_of_beq h);obtain⟨a⟩:=a;obtain⟨b⟩:=b;simp only at this;rw[this]
  ·rw[Sb h]
  ·simp only[Dg]at h;rw[Sb h.1.1,DN h.1.2,DN h.2]
  ·rw[dZ h]
  ·rfl
  ·rfl
  ·simp only[Dg]at h;rw[DN h.1,ih _ _ h.2]
  ·rw[Array.toList_inj.1 (JS ih _ _ h)]
  ·rw[Array.toList_inj.1 (JS ih _ _ h)]
  ·simp only[Dg]at h;rw[c8 h.1.1,Array.toList_inj.1 (JS ih _ _ h.1.2),Array.toList_inj.1 (JS ih _ _ h.2)]
  ·cases h
def Wr {α:Type} (n:Int) (k:Int->α):α:=
 Int.casesOn n (fun m=>Nat.casesOn (motive:=fun _=>α) m (k (.ofNat 0)) fun p=>k (.ofNat (p+1))) (fun m=>Nat.casesOn (motive:=fun _=>α) m (k (.negSucc 0)) fun p=>k (.negSucc (p+1)))
theorem Vg {α:Type} (n:Int) (k:Int->α):Wr n k=k n:=by
 cases n with
 | ofNat m=>cases m<;>rfl
 | negSucc m=>cases m<;>rfl
def Ze {α:Type} (v:Value) (k:Value->α):α:=
 match v with
 | .int kd n=>Wr n fun n=>k (.int kd n)
 | .bool b=>bif b then k (.bool true)else k (.bool false)
 | v=>k v
theorem K6 {α:Type} (v:Value) (k:Value->α):Ze v k=k v:=by
 unfold Ze;split
 ·rw[Vg]
 ·rename_i b;cases b<;>rfl
 ·rfl
def CG (f:Aj) (v:Value):Option Aj:=
 Ze v fun v=>
 match f with
 | ⟨fn,t,n,todo,ds,r,kd,rd⟩=>
  match todo with
  | .Kr ops (o::rest)::k=>
   match o.dst with
   | some d=>bif Nat.blt d n then some ⟨fn,t.put d (some v),n,.Kr ops rest::k,ds,r,kd,rd⟩else none
   | none=>some ⟨fn,t,n,.Kr ops rest::k,ds,r,kd,rd⟩
  | .Ee ops (.op _ o::rest)::k=>
   match o.dst with
   | some d=>bif Nat.blt d n then some ⟨fn,t.put d (some v),n,.Ee ops rest::k,ds,r,kd,rd⟩else none
   | none=>some ⟨fn,t,n,.Ee ops rest::k,ds,r,kd,rd⟩
  | .inRangeFunc l::k=>some ⟨fn,t,n,.endRangeFunc l::k,ds,r,kd,rd⟩
  | .beginRound::k=>some ⟨fn,t,n,k,ds,r,kd,rd⟩
  | _=>none
def Jr (id:Nat):List B9->Option (List B9)
 | []=>none
 | x::k=>match x with
  | .inBlock id'=>bif Nat.beq id' id then some k else Jr id k
  | _=>Jr id k
def CM:Nat->AL->Tr Value->Tr Value
 | _,[],t=>t
 | i,v::r,t=>CM (i+1) r (t.put i (some v))
def entry (P:Program) (f:FuncId):Option (Nat × Code):=
 match P.funcs[f]? with
 | some fn=>match fn.body with
  | some c=>bif fn.name== "runtime.NumGoroutine" then none else some (fn.ntmps,c)
  | none=>none
 | none=>none
def CP (X:Ctx) (f:FuncId) (args:AL) (kind:CallKind) (H:AA):Option (Value × AA):=
 match X.IN f with
 | some F=>match kind with
  | .normal=>F args H
  | _=>none
 | none=>none
def IB (X:Ctx) (f:FuncId) (args:AL) (kind:CallKind) (fr:Aj) (cs:List Aj) (H:AA):Option BT:=
 match CP X f args kind H with
 | some (v,H')=>match CG fr v with
  | some fr'=>some ⟨fr',cs,H'⟩
  | none=>none
 | none=>match entry X.P f with
  | some (n,c)=>bif Nat.ble args.length n then some ⟨⟨f,CM 0 args .leaf,n,[.code c],[],false,kind,none⟩,fr::cs,H⟩else none
  | none=>match kind with
   | .normal=>bif args.all flat then
    match Mv X.P (callFunc f ⟨args⟩)with
    | some (.value v)=>bif flat v then
     match CG fr v with
     | some fr'=>some ⟨fr',cs,H⟩
     | none=>none
     else none
    | _=>none
    else none
   | _=>none
def Hn:List Tmp->AL->Tr Value->Tr Value
 | p::ps,v::vs,t=>Hn ps vs (t.put p (some v))
 | _,_,t=>t
def Xh (l:Nat) (args:AL) (fr:Aj) (cs:List Aj) (H:AA):Option BT:=
 match H.get l with
 | some (.loop r)=>bif Nat.beq args.length r.params.size&&r.params.toList.all (fun p=>Nat.blt p r.n)then
  some ⟨⟨r.fn,Hn r.params.toList args r.tmps,r.n,[.code r.assign,.beginRound,.code r.body],[],false,.normal,some l⟩,fr::cs,H⟩else none
 | _=>none
def Ni (X:Ctx) (f:Value) (args:AL) (fr:Aj) (cs:List Aj) (H:AA):Option BT:=
 match f with
 | .func (.func g) first captured=>IB X g (first.toList++args++captured.toList) .normal fr cs H
 | .func (.yield l) first _=>Xh l (first.toList++args) fr cs H
 | _=>none
def IS (kind:CallKind) (v:Value) (cs:List Aj) (H:AA):Option BT:=
 match cs with
 | []=>none
 | c::rest=>match kind with
  | .normal=>match CG c v with
   | some c'=>some ⟨c',rest,H⟩
   | none=>none
  | .deferred=>bif c.ret then some ⟨c,rest,H⟩else none
  | _=>none
def P2 (jump:Option Code) (fr:Aj) (cs:List Aj) (H:AA):Option BT:=
 match fr with
 | ⟨fn,t,n,todo,ds,_,kd,rd⟩=>
  match rd with
  | none=>match jump with
   | none=>some ⟨⟨fn,t,n,todo,ds,true,kd,none⟩,cs,H⟩
   | some .ret=>some ⟨⟨fn,t,n,todo,ds,true,kd,none⟩,cs,H⟩
   | _=>none
  | some l=>match H.get l with
   | some (.loop r)=>match jump with
    | none=>IS kd (.bool true) cs (H.put l (.loop { r with state:= .ready,pending:=none }))
    | some j=>IS kd (.bool false) cs (H.put l (.loop { r with state:= .done,pending:=some j }))
   | _=>none
def G5 (ops:Array Oper) (j:Nat):Option Tmp:=
 match ops.toList[j]? with
 | some o=>o.dst
 | none=>none
def Cw (ops:Array Oper) (o:Oper) (t:Tr Value):Option Bool:=
 match o.guard with
 | none=>some true
 | some (j,want)=>match G5 ops j with
  | some d=>match look t d with
   | .bool b=>some (bif want then b else !b)
   | .tuple _=>some false
   | _=>none
  | none=>some false
def isRec:Builtin->Bool
 | .recover=>true
 | _=>false
def uL (fr:Aj) (cs:List Aj) (H:AA):Option BT:=
 match fr.round with
 | some _=>none
 | none=>match fr.kind with
  | .normal=>match CG fr .nilIface with
   | some fr'=>some ⟨fr',cs,H⟩
   | none=>none
  | .deferred=>match cs with
   | []=>none
   | _::_=>match CG fr .nilIface with
    | some fr'=>some ⟨fr',cs,H⟩
    | none=>none
  | _=>none
def LZ (X:Ctx) (o:Oper) (fr:Aj) (cs:List Aj) (H:AA):Option BT:=
 match o.op with
 | .call c=>match c.callee with
  | .builtin b=>bif isRec b then uL fr cs H else match ML X.P (Bt X fr.tmps) o H with
   | some (v,H')=>match CG fr v with
    | some fr'=>some ⟨fr',cs,H'⟩
    | none=>none
   | none=>none
  | .value f=>Ni X (Bt X fr.tmps f) (c.args.toList.map (Bt X fr.tmps)) fr cs H
  | _=>none
 | .defer c=>match fr.round,c.callee with
  | none,.value f=>match Bt X fr.tmps f with
   | .func fn first captured=>match CG { fr with defers:={ target:= .fn fn captured,args:=⟨first.toList++c.args.toList.map (Bt X fr.tmps)⟩ }::fr.defers } Go.undef with
    | some fr'=>some ⟨fr',cs,H⟩
    | none=>none
   | _=>none
  | _,_=>none
 | _=>match ML X.P (Bt X fr.tmps) o H with
  | some (v,H')=>match CG fr v with
   | some fr'=>some ⟨fr',cs,H'⟩
   | none=>none
  | none=>none
def valOf (X:Ctx) (t:Tr Value) (H:AA):ResultVar->C1
 | .tmp i=>some (look t i)
 | .cell a ty=>Mf X.P ty (look t a) H
def Nx (X:Ctx) (t:Tr Value) (H:AA):List ResultVar->Option (AL)
 | []=>some []
 | r::rs=>match valOf X t H r,Nx X t H rs with
  | some v,some l=>some (v::l)
  | _,_=>none
def Kl (X:Ctx) (f:FuncId) (t:Tr Value) (H:AA):C1:=
 match X.P.funcs[f]? with
 | some fn=>match Nx X t H fn.results.toList with
  | some [v]=>some v
  | some l=>some (.tuple ⟨l⟩)
  | none=>none
 | none=>none
def NF (X:Ctx) (fr:Aj) (cs:List Aj) (H:AA):Option BT:=
 match fr with
 | ⟨fn,t,n,todo,ds,r,kd,rd⟩=>
  match ds with
  | []=>match Kl X fn t H with
   | some v=>IS kd v cs H
   | none=>none
  | d::rest=>match d with
   | ⟨w6,args⟩=>match w6 with
    | .collected b=>match H.get b with
     | some (.deferred (some l))=>some ⟨⟨fn,t,n,todo,l++rest,r,kd,rd⟩,cs,H.put b (.deferred none)⟩
     | _=>none
    | .fn (.func g) captured=>IB X g (args.toList++captured.toList) .deferred ⟨fn,t,n,todo,rest,r,kd,rd⟩ cs H
    | _=>none
def FD (X:Ctx) (c:BT):Option BT:=
 match c with
 | ⟨⟨fn,t,n,todo,ds,r,kd,rd⟩,cs,H⟩=>
  bif r then NF X ⟨fn,t,n,todo,ds,r,kd,rd⟩ cs H else
  match todo with
  | []=>P2 none ⟨fn,t,n,todo,ds,r,kd,rd⟩ cs H
  | it::k=>
   match it with
   | .Kr ops l=>match l with
    | []=>some ⟨⟨fn,t,n,k,ds,r,kd,rd⟩,cs,H⟩
    | o::_=>match Cw ops o t with
     | some true=>LZ X o ⟨fn,t,n,todo,ds,r,kd,rd⟩ cs H
     | some false=>match CG ⟨fn,t,n,todo,ds,r,kd,rd⟩ Go.undef with
      | some fr'=>some ⟨fr',cs,H⟩
      | none=>none
     | none=>none
   | .Ee ops l=>match l with
    | []=>some ⟨⟨fn,t,n,k,ds,r,kd,rd⟩,cs,H⟩
    | .SQ _ o::rest=>match Cw ops o t with
     | some true=>match o.dst,ML X.P (Bt X t) o H with
      | some d,some (v,_)=>bif Jw 8 v (look t d)then some ⟨⟨fn,t,n,.Ee ops rest::k,ds,r,kd,rd⟩,cs,H⟩else none
      | _,_=>none
     | some false=>some ⟨⟨fn,t,n,.Ee ops rest::k,ds,r,kd,rd⟩,cs,H⟩
     | none=>none
    | .op _ o::_=>match Cw ops o t with
     | some true=>LZ X o ⟨fn,t,n,todo,ds,r,kd,rd⟩ cs H
     | some false=>match CG ⟨fn,t,n,todo,ds,r,kd,rd⟩ Go.undef with
      | some fr'=>some ⟨fr',cs,H⟩
      | none=>none
     | none=>none
   | .code c=>match c with
    | .seq a b=>some ⟨⟨fn,t,n,.code a:: .code b::k,ds,r,kd,rd⟩,cs,H⟩
    | .region _ ops false=>some ⟨⟨fn,t,n,.Kr ops ops.toList::k,ds,r,kd,rd⟩,cs,H⟩
    | .region _ ops true=>match X.BJ ops with
     | some p=>some ⟨⟨fn,t,n,.Ee ops p::k,ds,r,kd,rd⟩,cs,H⟩
     | none=>none
    | .cond c a b=>match Bt X t c with
     | .bool x=>some ⟨⟨fn,t,n,.code (bif x then a else b)::k,ds,r,kd,rd⟩,cs,H⟩
     | _=>none
    | .skip=>some ⟨⟨fn,t,n,k,ds,r,kd,rd⟩,cs,H⟩
    | .label _=>some ⟨⟨fn,t,n,k,ds,r,kd,rd⟩,cs,H⟩
    | .block id b=>some ⟨⟨fn,t,n,.code b:: .inBlock id::k,ds,r,kd,rd⟩,cs,H⟩
    | .loop b=>some ⟨⟨fn,t,n,.code b:: .inLoop b::k,ds,r,kd,rd⟩,cs,H⟩
    | .scope b=>some ⟨⟨fn,t,n,.code b:: .inScope b::k,ds,r,kd,rd⟩,cs,H⟩
    | .exit id=>match Jr id k with
     | some k'=>some ⟨⟨fn,t,n,k',ds,r,kd,rd⟩,cs,H⟩
     | none=>P2 (some (.exit id)) ⟨fn,t,n,todo,ds,r,kd,rd⟩ cs H
    | .ret=>P2 (some .ret) ⟨fn,t,n,todo,ds,r,kd,rd⟩ cs H
    | .rangeFunc f params assign body=>
     match rd with
     | some l=>match H.get l with
      | some (.loop q)=>
       Ni X (Bt X t f) [.func (.yield H.next) ⟨[]⟩ ⟨[]⟩] ⟨fn,t,n,.inRangeFunc H.next::k,ds,r,kd,rd⟩ cs
        (H.alloc (.loop ⟨.ready,none,fn,t,n,params,assign,body,q.defers⟩))
      | _=>none
     | none=>
      Ni X (Bt X t f) [.func (.yield (H.next+1)) ⟨[]⟩ ⟨[]⟩] ⟨fn,t,n,.inRangeFunc (H.next+1)::k,{ target:= .collected H.next,args:=⟨[]⟩ }::ds,r,kd,rd⟩ cs
       ((H.alloc (.deferred (some []))).alloc (.loop ⟨.ready,none,fn,t,n,params,assign,body,H.next⟩))
    | _=>none
   | .inBlock _=>some ⟨⟨fn,t,n,k,ds,r,kd,rd⟩,cs,H⟩
   | .inScope _=>some ⟨⟨fn,t,n,k,ds,r,kd,rd⟩,cs,H⟩
   | .inLoop b=>some ⟨⟨fn,t,n,.code b:: .inLoop b::k,ds,r,kd,rd⟩,cs,H⟩
   | .beginRound=>match rd with
    | some l=>match H.get l with
     | some (.loop q)=>match q.state with
      | .ready=>some ⟨⟨fn,t,n,k,ds,r,kd,rd⟩,cs,H.put l (.loop { q with state:= .busy })⟩
      | _=>none
     | _=>none
    | none=>none
   | .endRangeFunc l=>match H.get l with
    | some (.loop q)=>match q.state with
     | .busy=>none
     | _=>match q.pending with
      | none=>some ⟨⟨fn,t,n,k,ds,r,kd,rd⟩,cs,H.put l (.loop { q with state:= .exhausted })⟩
      | some j=>some ⟨⟨fn,t,n,.code j::k,ds,r,kd,rd⟩,cs,H.put l (.loop { q with state:= .exhausted })⟩
    | _=>none
   | .inRangeFunc _=>none
def fQ (X:Ctx) (fuel:Nat):BT->Option BT:=
 Nat.rec (motive:=fun _=>BT->Option BT) (fun c=>some c) (fun _ ih c=>match FD X c with
  | some c'=>ih c'
  | none=>none) fuel
abbrev Bz:=BT->Prop
def Fx (o:Oper):AW:=(o.after.toList.filter (Region.binds .any)).map (·.on)
def CA (P:Program) (o:Oper):Nat:=
 match o.op with
 | .move _ | .pick _ _ _ | .extract _ _ | .nilCheck _ | .makeFunc _ _ _ | .makeInterface _ _ | .load _ _ | .build _ _ | .slice _ _ _ _ _ | .fieldAddr _ _ _ | .field _ _ _ | .indexAddr _ _ _ | .index _ _ _ | .binOp _ _ _ _ _ | .unOp _ _ _=>0
 | .convert _ d _=>match P.underlying d with
  | some (.slice _)=>2
  | _=>0
 | .call c=>match c.callee with
  | .builtin .len=>0
  | .builtin .min=>0
  | .builtin .max=>0
  | _=>2
 | .alloc t=>bif (Yx P t).isSome then 2 else 1
 | .makeSlice t _ _=>bif II P t then 2 else 1
 | .box _ _ | .buildSlice _ _ _=>1
 | _=>2
def TR (ops:List Oper):Nat->AW->AW->AW
 | 0,_,seen=>seen
 | f+1,todo,seen=>match todo with
  | []=>seen
  | i::r=>bif seen.any (Nat.beq i)then TR ops f r seen else
   match ops[i]? with
   | some o=>TR ops f (Fx o++r) (i::seen)
   | none=>TR ops f r seen
def Jx (ops:List Oper) (o:Oper):AW:=TR ops (ops.length * ops.length * 4+4) (Fx o) []
def fM (done:AW) (o:Oper):Bool:=(Fx o).all fun d=>done.any (Nat.beq d)
def Za (P:Program) (ops:List Oper) (done:AW) (x:Oper):List PE:=
 let Zc:=Jx ops x
 done.filterMap fun j=>match ops[j]? with
  | some o=>bif Nat.beq (CA P o) 0&& !(Zc.any (Nat.beq j))then some (.SQ j o)else none
  | none=>none
def OS (P:Program) (ops:List Oper):Nat->AW->Option (List PE)
 | 0,done=>bif Nat.beq done.length ops.length then some []else none
 | f+1,done=>
  match (ops.zipIdx.find? fun(o,i)=> !(done.any (Nat.beq i))&&fM done o&& !(Nat.beq (CA P o) 2))with
  | some (o,i)=>(OS P ops f (i::done)).map (PE.op i o::·)
  | none=>match (ops.zipIdx.find? fun(o,i)=> !(done.any (Nat.beq i))&&fM done o)with
   | some (o,i)=>(OS P ops f (i::done)).map fun r=>PE.op i o::(Za P ops done o++r)
   | none=>none
def OX (l:AW) (i:Nat):Bool:=l.any (Nat.beq i)
def Ew (ops:Array Oper) (o:Oper):List Tmp:=
 (o.op.operands.toList.filterMap fun x=>match x with | .tmp t=>some t | _=>none)++(match o.guard with | some (j,_)=>(G5 ops j).toList | none=>[])
def Pe:Option Tmp->Option Tmp->Bool
 | some a,some b=>Nat.beq a b
 | _,_=>false
def MV (P:Program) (ops:Array Oper):Bool:=
 ops.toList.zipIdx.all fun(o,i)=>
  (Ew ops o).all (fun u=>ops.toList.zipIdx.all fun(oj,j)=> !(Pe oj.dst (some u))||OX (Fx o) j||(Nat.beq (CA P oj) 2&&OX (Jx ops.toList oj) i))&&
  (Nat.beq (CA P o) 2||o.dst.isSome)&&
  ops.toList.zipIdx.all fun(oj,j)=>Nat.beq i j|| !(Pe o.dst oj.dst)
def lead:List PE->AW
 | .SQ i _::r=>i::lead r
 | _=>[]
def EY (P:Program) (ops:Array Oper):AW->List PE->Bool
 | D,[]=>(List.range ops.size).all (OX D)
 | D,.op i o::rest=> !(OX D i)&&(Fx o).all (OX D)&&
  (bif Nat.beq (CA P o) 2 then
   (ops.toList.zipIdx.all fun(oj,j)=>OX D j||Nat.beq j i||OX (Jx ops.toList oj) i)&&
   (D.all fun j=>match ops.toList[j]? with
    | some oj=> !(Nat.beq (CA P oj) 0)||OX (Jx ops.toList o) j||OX (lead rest) j
    | none=>true)
  else true)&&EY P ops (i::D) rest
 | D,.SQ j _::rest=>OX D j&&EY P ops D rest
def MP (P:Program) (ops:Array Oper):Option (List PE):=
 match OS P ops.toList ops.size []with
 | some p=>bif MV P ops&&EY P ops [] p then some p else none
 | none=>none
section
variable {P:Program} {base:Env} {W0:World} {μ:Ae} {H:AA} {W:World}
theorem RL {ρ ρ2:Operand->Value} (l:List Operand) (h:∀x∈l,ρ x=ρ2 x):l.all (fun x=>flat (ρ x))=l.all (fun x=>flat (ρ2 x)):=by
 induction l with
 | nil=>rfl
 | cons a l ih=>simp only[lf];rw[h a (by simp),ih fun x hx=>h x (by simp[hx])]
theorem Vl {ρ ρ2:Operand->Value} (o:Oper) (h:∀x∈o.op.operands,ρ x=ρ2 x):H5 P ρ o H=H5 P ρ2 o H:=by
 unfold H5;rw[RL o.op.operands.toList (fun x hx=>h x (by simpa using hx))];cases hs:JM o.op
 ·rw[execOp_congr o (fun cs b e=>by rw[e]at hs;simp[JM]at hs) h]
 ·simp
theorem Od {ρ ρ2:Operand->Value} (l:List (Nat × Operand)) (h:∀p∈l,ρ p.2=ρ2 p.2):
 l.all (fun p=>EN (ρ p.2))=l.all (fun p=>EN (ρ2 p.2))/\(l.map fun p=>(p.1,ρ p.2))=(l.map fun p=>(p.1,ρ2 p.2)):=by
 induction l with
 | nil=>exact⟨rfl,rfl⟩
 | cons a l ih=>
  obtain⟨h1,h2⟩:=ih fun p hp=>h p (by simp[hp])
  simp only[lf,Sm];rw[h a (by simp),h1,h2];exact⟨rfl,rfl⟩
theorem JZ {ρ ρ2:Operand->Value} (l:List Operand) (h:∀x∈l,ρ x=ρ2 x):l.map ρ=l.map ρ2:=AAQ h
theorem Xz {ρ ρ2:Operand->Value} (o:Oper) (h:∀x∈o.op.operands,ρ x=ρ2 x):PU P ρ o H=PU P ρ2 o H:=by
 have hfl:=Vl (P:=P) (H:=H) o h;unfold PU;cases hop:o.op<;>rw[hop]at h<;>simp only[Op.operands]at h
 case move x=>simp only[h x (by simp)]
 case assign x=>simp only[h x (by simp)]
 case pick c a b=>simp only[h c (by simp),h a (by simp),h b (by simp)]
 case extract t i=>simp only[h t (by simp)]
 case nilCheck x=>simp only[h x (by simp)]
 case makeFunc fn first captured=>
  simp only[JZ first.toList (fun x hx=>h x (by simp at hx;simp[hx])),JZ captured.toList (fun x hx=>h x (by simp at hx;simp[hx]))]
 case makeInterface t x=>simp only[h x (by simp)]
 case load t a=>simp only[h a (by simp)]
 case store t a x=>simp only[h a (by simp),h x (by simp)]
 case box t x=>simp only[h x (by simp)]
 case build t ps=>
  obtain⟨h1,h2⟩:=Od (ρ:=ρ) (ρ2:=ρ2) ps.toList (fun p hp=>h p.2 (by simp;exact⟨p.1,by simpa using hp⟩));simp only[h1,h2]
 case buildSlice t n ps=>
  obtain⟨h1,h2⟩:=Od (ρ:=ρ) (ρ2:=ρ2) ps.toList (fun p hp=>h p.2 (by simp;exact⟨p.1,by simpa using hp⟩));simp only[h1,h2]
 case makeSlice t l c=>simp only[h l (by simp),h c (by simp)]
 case slice t x lo hi mx=>
  have hx:=h x (by simp);have h1:lo.map ρ=lo.map ρ2:=by cases lo with | none=>rfl | some y=>simp[h y (by simp)]
  have h2:hi.map ρ=hi.map ρ2:=by cases hi with | none=>rfl | some y=>simp[h y (by simp)]
  have h3:mx.map ρ=mx.map ρ2:=by cases mx with | none=>rfl | some y=>simp[h y (by simp)]
  simp only[hx,h1,h2,h3]
 case fieldAddr s x k=>simp only[h x (by simp)]
 case field s x k=>simp only[h x (by simp)]
 case indexAddr t x i=>simp only[h x (by simp),h i (by simp)]
 case index t x i=>simp only[h x (by simp),h i (by simp)]
 case range t x=>simp only[h x (by simp)]
 case next it s=>simp only[h it (by simp)]
 case binOp op t x y yt=>simp only[hfl,h x (by simp),h y (by simp)]
 case convert s d x=>simp only[hfl,h x (by simp)]
 case unOp=>exact hfl
 case call c=>
  simp only;cases hc:c.callee with
  | builtin b=>
   simp only;have hargs:c.args.toList.map ρ=c.args.toList.map ρ2:=JZ _ fun x hx=>h x (by simp[Call.operands,hc];simpa using hx)
   have harg1:∀x,c.args.toList=[x]->ρ x=ρ2 x:=fun x hx=>h x (by
    have:x∈c.args:=by rw[<-Array.mem_toList_iff,hx];simp
    simp[Call.operands,hc,this])
   unfold KT;cases b<;>simp only[hargs,hfl]
   case len=>
    split
    ·rename_i t r x ht hx;rw[harg1 x hx]
    ·rfl
  | value f=>rfl
  | invoke r m=>rfl
 all_goals rfl
def KW (H H2:AA):Prop:=∀b o,H.get b=some o->H2.get b=some o
theorem KW.alloc (hH:AJ base W0 μ H W) (o:AP):KW H (H.alloc o):=by
 intro b p hb;rw[AA.AM,JT]
 ·exact hb
 ·rintro rfl;rw[(hH.fresh _ (GO _)).1]at hb;cases hb
theorem eM {H2:AA} (he:KW H H2) {t:TypeId} {a v:Value} (h:Mf P t a H=some v):Mf P t a H2=some v:=by
 unfold Mf at h ⊢;split at h
 ·split at h
  ·rename_i cs e ro hb;simp only[he _ _ hb];exact h
  ·cases h
 ·cases h
theorem kX {H2:AA} (he:KW H H2) {sz:Nat} {x:Value} {r:Nat × AL} (h:EM sz x H=some r):EM sz x H2=some r:=by
 unfold EM at h ⊢;split at h
 ·exact h
 ·rename_i b off n c;cases hz:Nat.beq (n * sz) 0
  ·simp only[hz,EB]at h ⊢;split at h
   ·rename_i cs e ro hb;simp only[he _ _ hb];exact h
   ·cases h
  ·simp only[hz,C8]at h ⊢;exact h
 ·exact h
 ·cases h
theorem ZT {H2:AA} (he:KW H H2) {t:TypeId} {x v:Value} {lo hi mx:C1} (h:Ji P t x lo hi mx H=some v):Ji P t x lo hi mx H2=some v:=by
 unfold Ji at h ⊢;split at h
 ·exact h
 ·exact h
 ·exact h
 ·rename_i e b off len cap hu;split at h
  ·rename_i sz hsz;cases hc:Nat.blt cap Aa
   ·simp only[hc,EB]at h ⊢;split at h
    ·rename_i cs e2 ro hb;simp only[he _ _ hb];exact h
    ·cases h
   ·simp only[hc,C8]at h ⊢;exact h
  ·cases h
 ·cases h
theorem Gf {ρ:Operand->Value} {o:Oper} {v:Value} {H1:AA} (h:H5 P ρ o H=some (v,H1)):H1=H/\∀H2,H5 P ρ o H2=some (v,H2):=by
 unfold H5 at h ⊢;cases hc:(o.op.operands.toList.all (fun x=>flat (ρ x))&& !(JM o.op))
 ·simp only[hc,EB]at h;cases h
 ·simp only[hc,C8]at h ⊢;split at h
  ·rename_i w hw;cases hf:flat w
   ·simp[hf]at h
   ·simp only[hf,C8,C5,Si]at h ⊢;exact⟨h.2.symm,fun H2=>by simp[h.1]⟩
  ·cases h
theorem eQ {ρ:Operand->Value} {o:Oper} {v:Value} {H1:AA} (hcls:CA P o=0) (h:PU P ρ o H=some (v,H1)):H1=H/\∀H2,KW H H2->PU P ρ o H2=some (v,H2):=by
 unfold CA at hcls;unfold PU at h ⊢;cases hop:o.op<;>rw[hop]at hcls<;>simp only[hop]at h ⊢
 case makeSlice t0 _ _=>cases hb:II P t0<;>simp[hb]at hcls
 case alloc t0=>cases hb:(Yx P t0).isSome<;>simp[hb]at hcls
 case move x=>cases h;exact⟨rfl,fun _ _=>rfl⟩
 case assign x=>cases h;exact⟨rfl,fun _ _=>rfl⟩
 case pick c a b=>
  split at h
  ·cases h;exact⟨rfl,fun _ _=>rfl⟩
  ·cases h
 case extract t i=>
  split at h
  ·split at h
   ·cases h;exact⟨rfl,fun _ _=>rfl⟩
   ·cases h
  ·cases h
 case nilCheck x=>
  split at h
  ·cases h;exact⟨rfl,fun _ _=>rfl⟩
  ·cases h;exact⟨rfl,fun _ _=>rfl⟩
  ·cases h;exact⟨rfl,fun _ _=>rfl⟩
  ·cases h
 case makeFunc fn a b=>
  split at h
  ·cases h
  ·cases h;exact⟨rfl,fun _ _=>rfl⟩
 case makeInterface t x=>
  split at h
  ·cases h
  ·cases h;exact⟨rfl,fun _ _=>rfl⟩
  ·cases h
 case load t a=>
  split at h
  ·rename_i w hw;cases h
   exact⟨rfl,fun H2 he=>by rw[eM he hw]⟩
  ·cases h
 case build t ps=>
  cases hn:ps.toList.all (fun p=>EN (ρ p.2))
  ·simp only[hn,EB]at h;cases h
  ·simp only[hn,C8]at h ⊢;split at h
   ·cases h;exact⟨rfl,fun _ _=>rfl⟩
   ·cases h
 case slice t x lo hi mx=>
  split at h
  ·rename_i w hw;cases h
   exact⟨rfl,fun H2 he=>by rw[ZT he hw]⟩
  ·cases h
 case fieldAddr=>
  split at h
  ·cases h;exact⟨rfl,fun _ _=>rfl⟩
  ·cases h
 case field=>
  split at h
  ·cases h;exact⟨rfl,fun _ _=>rfl⟩
  ·cases h
 case indexAddr=>
  split at h
  ·cases h;exact⟨rfl,fun _ _=>rfl⟩
  ·cases h
 case index=>
  split at h
  ·cases h;exact⟨rfl,fun _ _=>rfl⟩
  ·cases h
 case binOp op t x y yt=>
  split at h
  ·rename_i r hr;cases h
   obtain⟨h1,h2⟩:=Gf hr;exact⟨h1,fun H2 _=>by rw[h2 H2]⟩
  ·rename_i hn;split at h
   ·rename_i w hw;cases h
    refine⟨rfl,fun H2 _=>?_⟩;cases hq:H5 P ρ o H2 with
    | none=>rfl
    | some r=>
     obtain⟨r1,r2⟩:=r;rw[(Gf hq).2 H]at hn;cases hn
   ·cases h
 case unOp=>
  obtain⟨h1,h2⟩:=Gf h;exact⟨h1,fun H2 _=>h2 H2⟩
 case convert s d x=>
  split at h
  ·rename_i r hr;cases h
   obtain⟨h1,h2⟩:=Gf hr;exact⟨h1,fun H2 _=>by rw[h2 H2]⟩
  ·rename_i hn;have hkeep:∀H2,H5 P ρ o H2=none:=by
    intro H2;cases hq:H5 P ρ o H2 with
    | none=>rfl
    | some r=>
     obtain⟨r1,r2⟩:=r;rw[(Gf hq).2 H]at hn;cases hn
   unfold I8 at h ⊢;split at h
   ·rename_i e a n c hu1 hu2;split at h
    ·split at h
     ·cases h
      exact⟨rfl,fun H2 _=>by simp only[hkeep H2]⟩
     ·split at h
      ·rename_i m l hs;split at h
       ·rename_i ns Pr;cases h
        exact⟨rfl,fun H2 he=>by simp only[hkeep H2,kX he hs,Pr]⟩
       ·cases h
      ·cases h
    ·cases h
   ·rename_i e s hu1 hu2 hx;simp only[hu2]at hcls;cases hcls
   ·cases h
 case call c=>
  cases hc:c.callee with
  | builtin b=>
   simp only[hc]at h hcls ⊢;unfold KT at h ⊢;cases b<;>simp at hcls<;>simp only at h ⊢
   case len=>
    split at h
    ·split at h
     ·cases h;exact⟨rfl,fun _ _=>rfl⟩
     ·cases h
    ·cases h
   all_goals (obtain⟨h1,h2⟩:=Gf h;exact⟨h1,fun H2 _=>h2 H2⟩)
  | value f=>simp only[hc]at h;cases h
  | invoke r m=>simp only[hc]at h;cases h
 all_goals first | (cases h;done) | (simp at hcls;done)
theorem bh {ρ ρ2:Operand->Value} (o:Oper) (h:∀x∈o.op.operands,ρ x=ρ2 x):Uu P ρ o H=Uu P ρ2 o H:=by
 unfold Uu;cases hop:o.op<;>rw[hop]at h<;>simp only[Op.operands]at h
 case load t a=>simp only[h a (by simp)]
 case store t a x=>simp only[h a (by simp),h x (by simp)]
 case slice t x lo hi mx=>
  have hx:=h x (by simp);have h1:lo.map ρ=lo.map ρ2:=by cases lo with | none=>rfl | some y=>simp[h y (by simp)]
  have h2:hi.map ρ=hi.map ρ2:=by cases hi with | none=>rfl | some y=>simp[h y (by simp)]
  cases mx with
  | none=>simp only[hx,h1,h2]
  | some y=>have hy:=h y (by simp);simp only[hx,h1,h2,hy]
 case makeSlice t0 l0 c0=>simp only[h l0 (by simp),h c0 (by simp)]
 case fieldAddr s x k=>simp only[h x (by simp)]
 case indexAddr t x i=>simp only[h x (by simp),h i (by simp)]
 case index t x i=>simp only[h x (by simp),h i (by simp)]
 case next it s=>simp only[h it (by simp)]
 case binOp op t x y yt=>simp only[h x (by simp),h y (by simp)]
 case convert s d x=>simp only[h x (by simp)]
 case call c=>
  simp only;cases hc:c.callee with
  | builtin b=>
   have hargs:c.args.toList.map ρ=c.args.toList.map ρ2:=JZ _ fun x hx=>h x (by simp[Call.operands,hc];simpa using hx)
   cases b<;>simp only[hargs]
  | value f=>rfl
  | invoke r m=>rfl
 all_goals rfl
theorem I9 {ρ ρ2:Operand->Value} (o:Oper) (h:∀x∈o.op.operands,ρ x=ρ2 x):ML P ρ o H=ML P ρ2 o H:=by
 unfold ML;rw[bh o h,Xz o h]
theorem XG {H2:AA} (he:KW H H2) {t:TypeId} {b o i:Nat} {v:Value} {H1:AA} (h:(Jq P t b o i H).run=some (v,H1)):H1=H/\(Jq P t b o i H2).run=some (v,H2):=by
 unfold Jq at h ⊢;split at h
 ·rename_i k l ro hb;simp only[he _ _ hb];split at h
  ·rename_i d n hd hn;try simp only[hd,hn]
   cases hon:Nat.ble (o+n) k.length
   ·simp[hon,VT.run]at h
   ·simp only[hon,C8]at h ⊢;cases hag:E4 d
    ·simp only[hag,EB]at h ⊢;split at h
     ·rename_i v0 hv0;cases hsl:XF d
      ·simp only[hsl,EB]at h ⊢;obtain⟨h1,h2⟩:=BA h;obtain⟨rfl,rfl⟩:=BO h2;simp only[h1,VT.run,C8,AAV]
      ·simp only[hsl,C8]at h ⊢;obtain⟨h1,h2⟩:=BA h;obtain⟨rfl,rfl⟩:=BO h2;simp only[h1,VT.run,C8,AAV]
     ·cases h
    ·simp only[hag,C8]at h ⊢;obtain⟨h1,h2⟩:=BA h;obtain⟨rfl,rfl⟩:=BO h2;simp only[h1,VT.run,C8,AAV]
  ·cases h
 ·cases h
theorem Yb {H2:AA} (he:KW H H2) {t:TypeId} {b o i:Nat} {v:Value} {H1:AA} (h:(MN P t b o i H).run=some (v,H1)):H1=H/\(MN P t b o i H2).run=some (v,H2):=by
 obtain⟨h1,h2⟩:=BA h;obtain⟨h3,h4⟩:=XG he h2;exact⟨h3,by show(VT.test _ _ _).run=_;rw[h1];exact h4⟩
theorem WA {t:TypeId} {x:Value} {k:IntKind} {m:Int} (H2:AA) {v:Value} {H1:AA}:∀n,(YA P t x k m H n).run=some (v,H1)->H1=H/\(YA P t x k m H2 n).run=some (v,H2)
 | 0,h=>by cases h
 | j+1,h=>by
  unfold YA at h ⊢;split at h
  ·cases h2:(m== .ofNat j)
   ·rw[h2]at h;exact WA H2 j h
   ·rw[h2]at h;cases h;exact⟨rfl,rfl⟩
  ·cases h
theorem TD {t:TypeId} {x ix:Value} {tr:VT} (h:Mn P t x ix H=some tr) (H2:AA):∃t2,Mn P t x ix H2=some t2/\∀v H1,tr.run=some (v,H1)->H1=H/\t2.run=some (v,H2):=by
 unfold Mn at h ⊢;split at h
 ·rename_i b off n c k m;cases hn:Nat.ble n 12
  ·simp only[hn,EB]at h;cases h
  ·simp only[hn,C8,C5]at h ⊢;subst h;exact⟨_,rfl,fun v H1 hr=>WA H2 n hr⟩
 ·cases h
theorem Xg {t:TypeId} {x ix:Value} (h:Mn P t x ix H=none) (H2:AA):Mn P t x ix H2=none:=by
 cases h2:Mn P t x ix H2 with
 | none=>rfl
 | some tr=>obtain⟨t2,h3,_⟩:=TD h2 H;rw[h]at h3;cases h3
theorem PS {H2:AA} (he:KW H H2) {t:TypeId} {b j n:Nat} {ix v:Value} {H1:AA} (h:(F8 P t b j n ix H).run=some (v,H1)):H1=H/\(F8 P t b j n ix H2).run=some (v,H2):=by
 unfold F8 at h ⊢;split at h
 ·split at h
  ·rename_i e k l ro hu hb;simp only[hu,he _ _ hb];split at h
   ·rename_i sz hsz;try simp only[hsz]
    cases hk:Nat.beq sz k.length
    ·simp only[hk,EB]at h;cases h
    ·simp only[hk,C8]at h ⊢;obtain⟨h1,h2⟩:=BA h;obtain⟨rfl,rfl⟩:=BO h2;simp only[h1,VT.run,C8,AAV]
   ·cases h
  ·cases h
 ·cases h
theorem RH {H2:AA} (he:KW H H2) {t:TypeId} {b j:Nat} {ix v:Value} {H1:AA} (h:(Gd P t b j ix H).run=some (v,H1)):H1=H/\(Gd P t b j ix H2).run=some (v,H2):=by
 unfold Gd at h ⊢;split at h
 ·split at h
  ·rename_i n e k l ro hu hb;simp only[hu,he _ _ hb];split at h
   ·rename_i sz hsz;try simp only[hsz]
    cases hk:Nat.beq sz k.length
    ·simp only[hk,EB]at h;cases h
    ·simp only[hk,C8]at h ⊢;obtain⟨h1,h2⟩:=BA h;obtain⟨rfl,rfl⟩:=BO h2;simp only[h1,VT.run,C8,AAV]
   ·cases h
  ·cases h
 ·cases h
theorem Ns {H2:AA} {s:TypeId} {b o i k:Nat} {v:Value} {H1:AA} (h:(FK P s b o i k H).run=some (v,H1)):H1=H/\(FK P s b o i k H2).run=some (v,H2):=by
 unfold FK at h ⊢;split at h
 ·split at h
  ·split at h
   ·rename_i n hn;cases hz:Nat.beq n 0
    ·simp only[hz,EB]at h ⊢;obtain⟨h1,h2⟩:=BA h;obtain⟨rfl,rfl⟩:=BO h2;simp only[h1,VT.run,C8,AAV]
    ·simp only[hz,C8]at h;cases h
   ·cases h
  ·cases h
 ·cases h
theorem PO {H2:AA} {s:TypeId} {b o i k:Nat} {v:Value} {H1:AA} (h:(Ik P s b o i k H).run=some (v,H1)):H1=H/\(Ik P s b o i k H2).run=some (v,H2):=by
 obtain⟨h1,h2⟩:=BA h;obtain⟨h3,h4⟩:=Ns (H2:=H2) h2;exact⟨h3,by show(VT.test _ _ _).run=_;rw[h1];exact h4⟩
theorem QQ {t:TypeId} {cs:AL} {ix:Value} {T:VT} (h:ES P t cs ix H=some T) (H2:AA):∃t2,ES P t cs ix H2=some t2/\∀v H1,T.run=some (v,H1)->H1=H/\t2.run=some (v,H2):=by
 unfold ES at h ⊢;split at h
 ·split at h
  ·rename_i sz hue hsz;cases hb:Nat.beq sz 1
   ·simp only[hb,EB]at h;cases h
   ·simp only[hb,C8,C5]at h ⊢;subst h;refine⟨_,rfl,fun v H1 hr=>?_⟩;obtain⟨h1,hr⟩:=BA hr;obtain⟨rfl,rfl⟩:=BO hr;refine⟨rfl,?_⟩;show(bif _ then _ else _)=_;rw[h1];rfl
  ·cases h
 ·cases h
theorem PK {t:TypeId} {cs:AL} {ix:Value} (h:ES P t cs ix H=none) (H2:AA):ES P t cs ix H2=none:=by
 unfold ES at h ⊢;split at h
 ·split at h
  ·rename_i sz hue hsz;cases hb:Nat.beq sz 1
   ·simp only[EB]
   ·simp only[hb,C8]at h;cases h
  ·rfl
 ·rfl
theorem Ri {H2:AA} {t:TypeId} {s:As} {ix v:Value} {H1:AA} (h:(Gi P t s ix H).run=some (v,H1)):H1=H/\(Gi P t s ix H2).run=some (v,H2):=by
 unfold Gi at h ⊢;split at h
 ·obtain⟨h1,h2⟩:=BA h;obtain⟨rfl,rfl⟩:=BO h2;simp only[h1,VT.run,C8,AAV]
 ·cases h
theorem Px {H2:AA} {t:TypeId} {s:As} {lo hi:C1} {v:Value} {H1:AA} (h:(Gn P t s lo hi H).run=some (v,H1)):H1=H/\(Gn P t s lo hi H2).run=some (v,H2):=by
 unfold Gn at h ⊢;split at h
 ·obtain⟨h1,h2⟩:=BA h;obtain⟨rfl,rfl⟩:=BO h2;simp only[h1,VT.run,C8,AAV]
 ·cases h
theorem V6 {H2:AA} (he:KW H H2) {t:TypeId} {b j n c:Nat} {lo hi:C1} {v:Value} {H1:AA} (h:(LD P t b j n c lo hi H).run=some (v,H1)):H1=H/\(LD P t b j n c lo hi H2).run=some (v,H2):=by
 unfold LD at h ⊢;split at h
 ·rename_i e k l0 ro l hh hu hb h1 h2;simp only[hu,he _ _ hb,h1,h2];split at h
  ·rename_i sz hsz;try simp only[hsz]
   cases hk:(Nat.beq sz k.length&&Nat.beq c Aa)
   ·simp only[hk,EB]at h;cases h
   ·simp only[hk,C8]at h ⊢;obtain⟨h1,h2⟩:=BA h;obtain⟨rfl,rfl⟩:=BO h2;simp only[h1,VT.run,C8,AAV]
  ·cases h
 ·cases h
theorem UB {H2:AA} (he:KW H H2) {t:TypeId} {b j n c:Nat} {lo hi:C1} {mx v:Value} {H1:AA} (h:(JK P t b j n c lo hi mx H).run=some (v,H1)):H1=H/\(JK P t b j n c lo hi mx H2).run=some (v,H2):=by
 unfold JK at h ⊢;split at h
 ·rename_i e k l0 ro l kh hh km m hu hb h1;simp only[hu,he _ _ hb,h1];split at h
  ·rename_i sz hsz;try simp only[hsz]
   cases hk:(Nat.beq sz k.length&&Nat.beq c Aa)
   ·simp only[hk,EB]at h;cases h
   ·simp only[hk,C8]at h ⊢;obtain⟨h1,h2⟩:=BA h;obtain⟨rfl,rfl⟩:=BO h2;simp only[h1,VT.run,C8,AAV]
  ·cases h
 ·cases h
theorem S8 {op:BinOp} {x y:Value} {t:VT} (h:NM op x y H=some t) (H2:AA):∃t2,NM op x y H2=some t2/\∀v H1,t.run=some (v,H1)->H1=H/\t2.run=some (v,H2):=by
 unfold NM at h ⊢;split at h
 ·rename_i k a k' b;cases hk:decide (k=k')
  ·simp only[hk,EB]at h;cases h
  ·simp only[hk,C8,C5]at h ⊢;subst h;refine⟨_,rfl,fun v H1 hr=>?_⟩;obtain⟨h1,h2⟩:=BA hr;obtain⟨rfl,rfl⟩:=BO h2;simp only[h1,VT.run,C8,AAV]
 ·rename_i k a k' b;cases hk:decide (k=k')
  ·simp only[hk,EB]at h;cases h
  ·simp only[hk,C8,C5]at h ⊢;subst h;refine⟨_,rfl,fun v H1 hr=>?_⟩;obtain⟨h1,h2⟩:=BA hr;obtain⟨rfl,rfl⟩:=BO h2;simp only[h1,VT.run,C8,AAV]
 all_goals first
  | (cases h;done)
  | (simp only[C5]at h ⊢
     subst h;refine⟨_,rfl,fun v H1 hr=>?_⟩;obtain⟨h1,h2⟩:=BA hr;obtain⟨rfl,rfl⟩:=BO h2;simp only[h1,VT.run,C8,AAV])
theorem Yq {op:BinOp} {x y:Value} (h:NM op x y H=none) (H2:AA):NM op x y H2=none:=by
 cases h2:NM op x y H2 with
 | none=>rfl
 | some t=>obtain⟨t2,h3,_⟩:=S8 h2 H;rw[h]at h3;cases h3
theorem Zh {op:BinOp} {ty:TypeId} {x y:Value} {t:VT} (h:Jb P op ty x y H=some t) (H2:AA):∃t2,Jb P op ty x y H2=some t2/\∀v H1,t.run=some (v,H1)->H1=H/\t2.run=some (v,H2):=by
 unfold Jb at h ⊢;split at h
 ·cases h
  exact⟨_,rfl,fun v H1 hr=>by cases hr;exact⟨rfl,rfl⟩⟩
 ·split at h
  ·rename_i c r he;cases h
   refine⟨_,rfl,fun v H1 hr=>?_⟩;cases c
   ·cases hr
   ·cases hr;exact⟨rfl,rfl⟩
  ·exact S8 h H2
theorem Vq {op:BinOp} {ty:TypeId} {x y:Value} (h:Jb P op ty x y H=none) (H2:AA):Jb P op ty x y H2=none:=by
 unfold Jb at h ⊢;split at h
 ·cases h
 ·split at h
  ·cases h
  ·exact Yq h H2
theorem SJ {s d:TypeId} {x:Value} {t:VT} (hcls:∀e,P.underlying d≠some (.slice e)) (h:FH P s d x H=some t) {H2:AA} (he:KW H H2):∃t2,FH P s d x H2=some t2/\∀v H1,t.run=some (v,H1)->H1=H/\t2.run=some (v,H2):=by
 unfold FH at h ⊢;split at h
 ·rename_i b j n c;simp only[C5]at h ⊢;subst h;refine⟨_,rfl,fun v H1 hr=>?_⟩;split at hr
  ·rename_i e l ro hu1 hu2 hb;split at hr
   ·rename_i hue;simp only[hu1,hu2,he _ _ hb,hue];obtain⟨h1,h2⟩:=BA hr;obtain⟨rfl,rfl⟩:=BO h2;simp only[h1,VT.run,C8,AAV]
   ·cases hr
  ·cases hr
 ·split at h
  ·rename_i e hu1 hu2;exact absurd hu2 (hcls e)
  ·cases h
 ·cases h
theorem QA {s d:TypeId} {x:Value} (hcls:∀e,P.underlying d≠some (.slice e)) (h:FH P s d x H=none) (H2:AA):FH P s d x H2=none:=by
 unfold FH at h ⊢;split at h
 ·cases h
 ·split
  ·rename_i e hu1 hu2;exact absurd hu2 (hcls e)
  ·rfl
 ·rfl
theorem Vb {ρ:Operand->Value} {o:Oper} {t:VT} (hcls:CA P o=0) (h:Uu P ρ o H=some t) {H2:AA} (he:KW H H2):∃t2,Uu P ρ o H2=some t2/\∀v H1,t.run=some (v,H1)->H1=H/\t2.run=some (v,H2):=by
 unfold CA at hcls;unfold Uu at h ⊢;cases hop:o.op<;>rw[hop]at hcls<;>simp only[hop]at h ⊢
 case makeSlice t0 _ _=>cases hb:II P t0<;>simp[hb]at hcls
 case alloc t0=>cases hb:(Yx P t0).isSome<;>simp[hb]at hcls
 case load t a=>
  split at h
  ·simp only[C5]at h;subst h;exact⟨_,rfl,fun v H1 hr=>Yb he hr⟩
  ·cases h
 case slice t x lo hi mx=>
  cases mx with
  | some m=>
   simp only at h ⊢;split at h
   ·simp only[C5]at h;subst h;exact⟨_,rfl,fun v H1 hr=>UB he hr⟩
   ·cases h
  | none=>
   simp only at h ⊢;split at h
   ·simp only[C5]at h;subst h;exact⟨_,rfl,fun v H1 hr=>Px hr⟩
   ·simp only[C5]at h;subst h;exact⟨_,rfl,fun v H1 hr=>V6 he hr⟩
   ·cases h
 case fieldAddr=>
  split at h
  ·simp only[C5]at h;subst h;exact⟨_,rfl,fun v H1 hr=>PO hr⟩
  ·cases h
 case indexAddr=>
  split at h
  ·simp only[C5]at h;subst h;exact⟨_,rfl,fun v H1 hr=>PS he hr⟩
  ·simp only[C5]at h;subst h;exact⟨_,rfl,fun v H1 hr=>RH he hr⟩
  ·exact TD h H2
 case index=>
  split at h
  ·simp only[C5]at h;subst h;exact⟨_,rfl,fun v H1 hr=>Ri hr⟩
  ·exact QQ h H2
  ·cases h
 case binOp op t x y yt=>exact Zh h H2
 case convert s d x=>
  refine SJ (fun e hu=>?_) h he;simp only[hu]at hcls;cases hcls
 case call c=>
  split at h
  ·rename_i hc;simp only[hc]at hcls;cases hcls
  ·rename_i hc;simp only[hc]at hcls;cases hcls
  ·cases h
 case store=>cases hcls
 case next=>cases hcls
 all_goals cases h
theorem gk {ρ:Operand->Value} {o:Oper} (hcls:CA P o=0) (h:Uu P ρ o H=none) (H2:AA):Uu P ρ o H2=none:=by
 unfold CA at hcls;unfold Uu at h ⊢;cases hop:o.op<;>rw[hop]at hcls<;>simp only[hop]at h ⊢
 case makeSlice t0 _ _=>cases hb:II P t0<;>simp[hb]at hcls
 case alloc t0=>cases hb:(Yx P t0).isSome<;>simp[hb]at hcls
 case load t a=>
  split at h
  ·cases h
  ·rfl
 case slice t x lo hi mx=>
  cases mx with
  | some m=>
   simp only at h ⊢;split at h
   ·cases h
   ·rfl
  | none=>
   simp only at h ⊢;split at h
   ·cases h
   ·cases h
   ·rfl
 case fieldAddr=>
  split at h
  ·cases h
  ·rfl
 case indexAddr=>
  split at h
  ·cases h
  ·cases h
  ·exact Xg h H2
 case index=>
  split at h
  ·cases h
  ·exact PK h H2
  ·rfl
 case binOp op t x y yt=>exact Vq h H2
 case convert s d x=>
  refine QA (fun e hu=>?_) h H2;simp only[hu]at hcls;cases hcls
 case call c=>
  split at h
  ·rename_i hc;simp only[hc]at hcls;cases hcls
  ·rename_i hc;simp only[hc]at hcls;cases hcls
  ·rfl
 case store=>cases hcls
 case next=>cases hcls
theorem Rp {ρ:Operand->Value} {o:Oper} {v:Value} {H1:AA} (hcls:CA P o=0) (h:ML P ρ o H=some (v,H1)):H1=H/\∀H2,KW H H2->ML P ρ o H2=some (v,H2):=by
 unfold ML at h ⊢;split at h
 ·rename_i t ht;obtain⟨_,_,h0⟩:=Vb hcls ht (H2:=H) (fun _ _ h=>h);refine⟨(h0 _ _ h).1,fun H2 he=>?_⟩;obtain⟨t2,h1,h2⟩:=Vb hcls ht he;simp only[h1];exact(h2 _ _ h).2
 ·rename_i hn;obtain⟨h1,h2⟩:=eQ hcls h;exact⟨h1,fun H2 he=>by simp only[gk hcls hn H2];exact h2 H2 he⟩
end
section
variable {P:Program} {base:Env} {W0:World} {μ:Ae} {H:AA} {W:World}
inductive w9:(Nat->Value)->Prop where
 | ptr:w9 fun b=> .pointer (some ⟨b,0,none⟩)
 | slice (l c:Nat) (h:c < Aa):w9 fun b=> .slice (some ⟨b,0,none⟩) l c
def fi (P:Program) (μ:Ae) (W:World) (s:Sem Next) (obj:AP) (mk:Nat->Value):Prop:=
 ∃o' T v',s.run P W= .ok (.value v') (W.alloc o')/\T.c=W.heap.size/\CZ μ T obj o'/\∀b,AH (μ.ext b T) (mk b) v'
theorem av {ρ:Operand->Value} {o:Oper} (hcls:CA P o=1) (H:AA):Uu P ρ o H=none:=by
 unfold CA at hcls;unfold Uu;cases hop:o.op<;>rw[hop]at hcls
 case alloc t0=>
  simp only at hcls ⊢;unfold Tt;cases hb:Yx P t0 with
  | none=>rfl
  | some e=>simp[hb]at hcls
 case makeSlice t0 l0 c0=>
  simp only at hcls ⊢;unfold UM;cases hb:II P t0 with
  | false=>rfl
  | true=>simp[hb]at hcls
 all_goals first | rfl | (cases hcls;done) | (simp only at hcls;split at hcls<;>cases hcls)
theorem Z3 {ρ:Operand->Value} {o:Oper} {v:Value} {H1:AA} (hcls:CA P o=1) (h:ML P ρ o H=some (v,H1)):
 ∃obj mk,v=mk H.next/\H1=H.alloc obj/\(∀H2,ML P ρ o H2=some (mk H2.next,H2.alloc obj))/\(obj.ro=false/\obj.isAbs=false)/\
  ∀(μ:Ae) (W:World) (ρ':Operand->Value),(∀x,AH μ (ρ x) (ρ' x))->fi P μ W (execOp ρ' o) obj mk:=by
 have hv1:=fun H=>av (ρ:=ρ) hcls H
 unfold CA at hcls;unfold ML at h ⊢;simp only[hv1]at h ⊢;unfold PU at h ⊢;cases hop:o.op<;>rw[hop]at hcls<;>simp only[hop]at h ⊢
 case alloc t=>
  split at h
  ·rename_i z hz;cases h
   refine⟨.cells z 0 false,fun b=> .pointer (some ⟨b,0,none⟩),rfl,rfl,fun _=>rfl,⟨rfl,rfl⟩,fun μ W ρ' _=>?_⟩;obtain⟨zz,r1,r2,r3⟩:=Hr hz W;have hl:Am μ z zz.cells.toList:=by rw[<-r3];exact IE r2
   exact⟨_,_,.pointer (some ⟨W.heap.size,0,none⟩),by simp[execOp,hop,Instr.alloc,r1,newVar,newRow],rfl,ER W.heap.size 0 t hl,fun b=>Mu ⟨W.heap.size,0,zz.cells.size,0⟩ b rfl⟩
  ·cases h
 case box t x=>
  cases hn:EN (ρ x)
  ·simp[hn]at h
  ·simp only[hn,C8,C5,Si]at h ⊢;obtain⟨rfl,rfl⟩:=h;refine⟨.cells (ρ x).cells.toList 0 false,fun b=> .pointer (some ⟨b,0,none⟩),rfl,rfl,fun _=>⟨rfl,rfl⟩,⟨rfl,rfl⟩,fun μ W ρ' hρ=>?_⟩;have hl:=I2 (hρ x) (MX hn);exact⟨_,_,.pointer (some ⟨W.heap.size,0,none⟩),by simp[execOp,hop,Instr.box,newVar,newRow],rfl,ER W.heap.size 0 t hl,fun b=>Mu ⟨W.heap.size,0,(ρ' x).cells.size,0⟩ b rfl⟩
 case buildSlice t len parts=>
  cases hn:(Nat.blt len Aa&&parts.toList.all (fun p=>EN (ρ p.2)))
  ·simp only[hn,EB]at h;cases h
  ·simp only[hn,C8]at h ⊢;simp only[Dg]at hn;have hcap:len < Aa:=BE hn.1;unfold Gz at h ⊢;split at h
   ·rename_i e hu;split at h
    ·rename_i n z hsz hz;obtain⟨ie,h5,rfl⟩:=Nl hsz;obtain⟨i,zz,h1,h2,h3,h4⟩:=HB hz;rw[h5]at h1;cases h1
     cases hz0:Nat.beq (len * ie.size) 0
     case true=>
      simp only[hz0,C8]at h ⊢;split at h
      ·rename_i hpn;cases h
       refine⟨.cells [] ie.size false,fun b=> .slice (some ⟨b,0,none⟩) len len,rfl,rfl,fun _=>rfl,⟨rfl,rfl⟩,fun μ W ρ' hρ=>?_⟩;have hz0:=DN hz0;have hpe:parts=#[]:=by
        have:parts.toList=[]:=by simpa using hpn
        rw[<-yi,this]
       have hrun:(Instr.buildSlice t len (parts.map fun(i,x)=>(i,ρ' x))).run P W= .ok (.slice (some ⟨W.heap.size,0,none⟩) len len) (W.alloc (.cells #[] e)):=by
        have hr0:Array.range 0=#[]:=rfl;subst hpe;simp[Instr.buildSlice,run_underlying hu,sizeOf,typeInfo,h5,hz0,newRow,hr0,Instr.fill]
       exact⟨_,_,_,by simp only[execOp,hop,Sem.run_bind,hrun,Result.andThen_ok,Sem.run_pure],rfl,ER (l:=[]) (c:=#[]) W.heap.size ie.size e .nil,fun b=>Eg _ b rfl len len len (.inl ⟨hcap,rfl⟩)⟩
      ·cases h
     simp only[hz0,EB]at h ⊢;cases hcnd:(Nat.ble (len * ie.size) 16777216)
     ·simp only[hcnd,EB]at h;cases h
     ·simp only[hcnd,C8]at h ⊢;have c1:=BE hcnd;have c2:¬len * ie.size=0:=by intro e;rw[e]at hz0;exact absurd hz0 (by decide)
      cases hf:KL (fun i=>some (i * ie.size,ie.size)) (Dn z (len * ie.size)) (parts.toList.map fun p=>(p.1,ρ p.2))with
      | none=>simp[hf]at h
      | some r=>
       simp only[hf,dH,C5,Si]at h ⊢;obtain⟨rfl,rfl⟩:=h;refine⟨.cells r ie.size false,fun b=> .slice (some ⟨b,0,none⟩) len len,rfl,rfl,fun _=>⟨rfl,rfl⟩,⟨rfl,rfl⟩,fun μ W ρ' hρ=>?_⟩;obtain⟨r',e1,e2⟩:=Mg _ _ _ _ r (LF hρ _ hn.2) (JN h3 h4 (len * ie.size)) hf;have hrun:(Instr.buildSlice t len (parts.map fun(i,x)=>(i,ρ' x))).run P W= .ok (.slice (some ⟨W.heap.size,0,none⟩) len len) (W.alloc (.cells r' e)):=by
        have hsmall:¬len * ie.size > 2 ^ 24:=by omega
        have e1':Instr.fill (fun i=>some (i * ie.size,ie.size)) ((Array.range (len * ie.size)).map (zz.cells[· % zz.cells.size]!)) (parts.map fun(i,x)=>(i,ρ' x)).toList=some r':=by
         rw[re];exact e1
        simp only[Instr.buildSlice,run_underlying hu,Sem.run_bind,Result.andThen_ok,Bg hsz,hsmall,ABC,Sem.run_pure,c2,zeroValue,typeInfo,run_program,h5,h2,e1',newRow,run_newObj,World.alloc_eq]
       exact⟨_,_,_,by simp only[execOp,hop,Sem.run_bind,hrun,Result.andThen_ok,Sem.run_pure],rfl,ER W.heap.size ie.size e e2,fun b=>Eg _ b rfl len len len (.inl ⟨hcap,rfl⟩)⟩
    ·cases h
   ·cases h
 case makeSlice t l c=>
  have h0:=h;unfold H9 at h ⊢;split at h
  ·rename_i e k1 l1 k2 c1 hu hl hc;split at h
   ·rename_i i z hie hz;cases hcnd:(Nat.ble l1 c1&&Nat.ble (i.bytes * c1) 281474976710656&&Nat.blt c1 9223372036854775808)
    ·simp only[hcnd,EB]at h;cases h
    ·simp only[hcnd,C8,C5,Si]at h ⊢;obtain⟨rfl,rfl⟩:=h;refine⟨.cells (Dn z (c1 * i.size)) i.size false,fun b=> .slice (some ⟨b,0,none⟩) l1 c1,rfl,rfl,fun _=>⟨rfl,rfl⟩,⟨rfl,rfl⟩,fun μ W ρ' hρ=>?_⟩;have hl':ρ' l= .int k1 (Int.ofNat l1):=by
      have:=hρ l;rw[hl]at this
      generalize ρ' l=q at this ⊢;cases this;rfl
     have hc':ρ' c= .int k2 (Int.ofNat c1):=by
      have:=hρ c;rw[hc]at this
      generalize ρ' c=q at this ⊢;cases this;rfl
     obtain⟨o',T,hrun,hT,ho⟩:=Gr (P:=P) (μ:=μ) (W:=W) (k1:=k1) (k2:=k2) hu hie hz hcnd;refine⟨o',T,.slice (some ⟨W.heap.size,0,none⟩) l1 c1,by simp only[execOp,hop,hl',hc',Sem.run_bind,hrun,Result.andThen_ok,Sem.run_pure],hT.1,ho,fun b=>?_⟩;have:=W9;simp only[Dg]at hcnd;have c3:c1 < 9223372036854775808:=BE hcnd.2;have hs:=Eg (μ:=μ) T b hT.2 l1 c1 c1 (.inl ⟨by omega,rfl⟩);rw[hT.1]at hs;exact hs
   ·cases h
  ·cases h
 case convert s d x=>
  simp only at hcls;split at hcls<;>cases hcls
 case call c=>
  simp only at hcls;split at hcls<;>cases hcls
 all_goals first | (cases h;done) | (simp at hcls;done)
theorem AJ.ghost (h:AJ base W0 μ H W) (o:AP):AJ base W0 μ (H.alloc o) W:=by
 have hn:=h.fresh H.next (GO _);have key:∀b p T,(H.alloc o).get b=some p->μ b=some T->H.get b=some p:=by
  intro b p T hb hm;rw[AA.AM]at hb
  by_cases e:b=H.next
  ·subst e;rw[hn.2]at hm;cases hm
  ·rw[JT e]at hb;exact hb
 refine⟨fun b p hb T hm=>h.obj b p (key b p T hb hm) T hm,fun b p hb hr T hm=>h.own b p (key b p T hb hm) hr T hm,fun b1 b2 o1 o2 h1 h2 T1 T2 m1 m2=>h.inj b1 b2 o1 o2 (key _ _ _ h1 m1) (key _ _ _ h2 m2) T1 T2 m1 m2,?_,h.bound,h.size,h.below,h.out,h.os,
  let ⟨φ,q⟩:=h.abs;⟨φ,fun b' a ro T' h1 h2=>q.rep b' a ro T' (key _ _ _ h1 h2) h2,fun b' a ro T' h1 h2 b2 o2 T2 h3 h4 h5=>q.DG b' a ro T' (key _ _ _ h1 h2) h2 b2 o2 T2 (key _ _ _ h3 h4) h4 h5⟩,h.le,h.grow⟩
 intro b hb;have hb':H.next+1<=b:=hb;refine⟨?_,(h.fresh b (by omega)).2⟩;rw[AA.AM,JT (by omega)];exact(h.fresh b (by omega)).1
theorem AJ.settle (h:AJ base W0 μ H W) {b:Nat} {T:Bc} {obj:AP} {o':Obj} (hb:H.get b=some obj) (hm:μ b=none) (hT:T.c=W.heap.size) (ho:CZ μ T obj o') (hna:obj.isAbs=false):AJ base W0 (μ.ext b T) H (W.alloc o'):=by
 have hle:=Ae.Cc T hm;have hlt:=h.lt hb;have GK:∀i,i < W.heap.size->(W.alloc o').heap[i]? = W.heap[i]?:=by
  intro i hi;show(W.heap.push o')[i]? = W.heap[i]?;rw[AAg,JT (by omega)]
 have key:∀i S,(μ.ext b T) i=some S->(i=b/\S=T)∨(i≠b/\μ i=some S):=by
  intro i S e
  by_cases hi:i=b
  ·subst hi;rw[Ae.Af]at e;cases e;exact .inl ⟨rfl,rfl⟩
  ·rw[Ae.BI _ _ hi]at e;exact .inr ⟨hi,e⟩
 refine⟨?_,?_,?_,?_,?_,?_,?_,h.out,h.os,?_,Ae.le_trans h.le hle,by have:=h.grow;simp;omega⟩
 ·intro i p hp S hS;rcases key i S hS with⟨rfl,rfl⟩ | ⟨hne,hS'⟩
  ·rw[hb]at hp;cases hp
   refine⟨o',?_,ho.mono hle⟩;rw[hT];show(W.heap.push o')[W.heap.size]? = some o';simp
  ·obtain⟨o2,h2,h3⟩:=h.obj i p hp S hS';exact⟨o2,by rw[GK _ (h.bound i S hS')];exact h2,h3.mono hle⟩
 ·intro i p hp hr S hS;rcases key i S hS with⟨rfl,rfl⟩ | ⟨hne,hS'⟩
  ·intro _ hk;have:=h.size _ hk;omega
  ·exact h.own i p hp hr S hS'
 ·intro b1 b2 o1 o2 h1 h2 T1 T2 m1 m2 v1 v2 hcc hrr;rcases key b1 T1 m1 with⟨e1,f1⟩ | ⟨n1,m1'⟩<;>rcases key b2 T2 m2 with⟨e2,f2⟩ | ⟨n2,m2'⟩
  ·rw[e1,e2]
  ·have:=h.bound b2 T2 m2';subst f1;omega
  ·have:=h.bound b1 T1 m1';subst f2;omega
  ·exact h.inj b1 b2 o1 o2 h1 h2 T1 T2 m1' m2' v1 v2 hcc hrr
 ·intro i hi;refine⟨(h.fresh i hi).1,?_⟩;rw[Ae.BI _ _ (by omega)];exact(h.fresh i hi).2
 ·intro i S hS;rcases key i S hS with⟨rfl,rfl⟩ | ⟨hne,hS'⟩
  ·simp;omega
  ·have:=h.bound i S hS';simp;omega
 ·intro i hi;have:=h.size i hi;simp;omega
 ·intro i hi;rw[GK i (h.size i hi)];exact h.below i hi
 ·obtain⟨φ,q⟩:=h.abs;refine⟨φ,?_,?_⟩
  ·intro b' a ro T' hb' hm';rcases key b' T' hm' with⟨rfl,rfl⟩ | ⟨hne,hm2⟩
   ·rw[hb]at hb';cases hb';cases hna
   ·obtain⟨r1,r2⟩:=q.rep b' a ro T' hb' hm2;exact⟨(GB.loc _ _ _ _ _ (by show W.heap.size<=(W.heap.push o').size;simp) r1 (fun i hi=>GK i ((GB.JA _ _ _ _ r1).2 i hi))).mono hle,r2⟩
  ·intro b' a ro T' hb' hm' b2 o2 T2 hb2 hm2 hne2;rcases key b' T' hm' with⟨rfl,rfl⟩ | ⟨hne,hm3⟩
   ·rw[hb]at hb';cases hb';cases hna
   ·rcases key b2 T2 hm2 with⟨rfl,rfl⟩ | ⟨hne3,hm4⟩
    ·rw[hb]at hb2;cases hb2
     refine⟨fun _ hc=>?_,fun e=>by rw[hna]at e;cases e⟩;have:=(GB.JA _ _ _ _ (q.rep b' a ro T' hb' hm3).1).2 _ hc;omega
    ·exact q.DG b' a ro T' hb' hm3 b2 o2 T2 hb2 hm4 hne2
end
section
variable {X:Ctx} {base:Env} {W0:World} {μ:Ae} {H:AA} {W:World}
inductive IY (μ:Ae):B9->Item->Prop where
 | code (c:Code):IY μ (.code c) (.code c)
 | inBlock (id:Nat):IY μ (.inBlock id) (.inBlock id)
 | inLoop (c:Code):IY μ (.inLoop c) (.inLoop c)
 | inScope (c:Code):IY μ (.inScope c) (.inScope c)
 | Kr (ops:Array Oper) (l:List Oper) (idx:AW) (h:idx.map (ops[·]?)=l.map some):IY μ (.Kr ops l) (.inRegion ops idx)
 | inRangeFunc (l:Nat) (T:Bc) (h:μ l=some T):IY μ (.inRangeFunc l) (.inRangeFunc T.c)
 | endRangeFunc (l:Nat) (T:Bc) (h:μ l=some T):IY μ (.endRangeFunc l) (.endRangeFunc T.c)
 | beginRound:IY μ .beginRound .beginRound
inductive EU (μ:Ae):List B9->List Item->Prop where
 | nil:EU μ [] []
 | cons {x:B9} {x':Item} {l:List B9} {l':List Item} (h:IY μ x x') (t:EU μ l l'):EU μ (x::l) (x'::l')
inductive HW (μ:Ae):Option Nat->Option Nat->Prop where
 | none:HW μ none none
 | some (l:Nat) (T:Bc) (h:μ l=some T):HW μ (some l) (some T.c)
theorem IY.mono {μ ν:Ae} (hl:μ.le ν) {x:B9} {x':Item} (h:IY μ x x'):IY ν x x':=by
 cases h with
 | code c=>exact .code c
 | inBlock id=>exact .inBlock id
 | inLoop c=>exact .inLoop c
 | inScope c=>exact .inScope c
 | Kr ops l idx h=>exact .Kr ops l idx h
 | inRangeFunc l T h=>exact .inRangeFunc l T (hl _ _ h)
 | endRangeFunc l T h=>exact .endRangeFunc l T (hl _ _ h)
 | beginRound=>exact .beginRound
theorem EU.mono {μ ν:Ae} (hl:μ.le ν) {x:List B9} {x':List Item} (h:EU μ x x'):EU ν x x':=by
 induction h with
 | nil=>exact .nil
 | cons h _ ih=>exact .cons (h.mono hl) ih
theorem HW.mono {μ ν:Ae} (hl:μ.le ν) {x x':Option Nat} (h:HW μ x x'):HW ν x x':=by
 cases h with
 | none=>exact .none
 | some l T h=>exact .some l T (hl _ _ h)
def UI (r:Bool):FrameMode:=bif r then .returning else .run
def Iw (ops:Array Oper) (BJ:List PE):Prop:=∀e∈BJ,match e with | .op i o=>ops[i]? = some o | .SQ i o=>ops[i]? = some o
def Wa (ops:Array Oper):AW->Prop
 | []=>True
 | i::r=>(∃o,ops[i]? = some o/\∀d∈Fx o,d∉i::r)/\i∉r/\Wa ops r
def vg (X:Ctx) (μ:Ae) (H:AA) (t:Tr Value) (o:Oper) (v:Value) (b:Nat):Prop:=
 ∃(obj:AP) (mk:Nat->Value),v=mk b/\(∀H2,ML X.P (Bt X t) o H2=some (mk H2.next,H2.alloc obj))/\b < H.next/\μ b=none/\H.get b=some obj
def NR (X:Ctx) (μ:Ae) (H:AA) (ops:Array Oper) (t:Tr Value) (G:List (Nat × Nat)) (Fact:Nat->Oper->Nat->Prop) (i:Nat) (o:Oper):Prop:=
 ∃d,o.dst=some d/\CA X.P o≠2/\((Cw ops o t=some false/\look t d=Go.undef)∨(Cw ops o t=some true/\CA X.P o=0/\Fact i o d)∨
  (Cw ops o t=some true/\CA X.P o=1/\∃b,(i,b)∈G/\vg X μ H t o (look t d) b))
structure FM (X:Ctx) (μ:Ae) (H:AA) (ops:Array Oper) (t:Tr Value) (n:Nat) (tm:BR) (D:AW) (BJ:List PE) (idx:AW) (G:List (Nat × Nat)) (Fact:Nat->Oper->Nat->Prop):Prop where
 stat:MV X.P ops=true
 wf:Iw ops BJ
 Uv:EY X.P ops D BJ=true
 J2:Wa ops idx
 V8:∀i o,ops[i]? = some o->i∉idx->i∈D/\∀d∈Fx o,d∉idx
 ec:∀i o,ops[i]? = some o->i∈D->∀d∈Fx o,d∈D
 sz:tm.size=n
 tmp:∀u,(∀i o,ops[i]? = some o->i∈D->i∈idx->o.dst≠some u)->AH μ (look t u) (tm.getD u Go.undef)
 lK:∀i o,ops[i]? = some o->i∈D->i∈idx->NR X μ H ops t G Fact i o
 eZ:∀i o d,ops[i]? = some o->i∈D->o.dst=some d->d < n
 gZ:(G.map Prod.snd).Nodup
 eb:∀b∈G.map Prod.snd,b < H.next
def En (X:Ctx) (H:AA) (t:Tr Value) (BJ:List PE) (i:Nat) (o:Oper) (d:Nat):Prop:=i∈lead BJ∨∃H1,ML X.P (Bt X t) o H=some (look t d,H1)
def Q2 (rest:List PE) (i:Nat) (_:Oper) (_:Nat):Prop:=i∈lead rest
inductive Hh (X:Ctx) (μ:Ae) (H:AA):AW->Aj->Frame->Prop where
 | plain (fn:FuncId) (t:Tr Value) (n:Nat) (tm:BR) (todo:List B9) (todo':List Item) (ds ds':List Deferred) (r:Bool) (kd:CallKind) (rd rd':Option Nat)
  (ht:Gj μ t n tm) (hi:EU μ todo todo') (hd:CT μ ds ds') (hr:HW μ rd rd'):
  Hh X μ H [] ⟨fn,t,n,todo,ds,r,kd,rd⟩ ⟨fn,tm,todo',ds',UI r,kd,rd'⟩
 | KA (fn:FuncId) (t:Tr Value) (n:Nat) (tm:BR) (ops:Array Oper) (x:Nat) (o:Oper) (rest:List PE) (idx D:AW) (G:List (Nat × Nat)) (k:List B9) (k':List Item) (ds ds':List Deferred) (kd:CallKind) (rd rd':Option Nat)
  (ho:ops[x]? = some o) (hD:FM X μ H ops t n tm D (.op x o::rest) (x::idx) G (Q2 rest)) (hk:EU μ k k') (hd:CT μ ds ds') (hr:HW μ rd rd'):
  Hh X μ H (G.map Prod.snd) ⟨fn,t,n,.Ee ops (.op x o::rest)::k,ds,false,kd,rd⟩ ⟨fn,tm,.inRegion ops (x::idx)::k',ds',.run,kd,rd'⟩
inductive OA (X:Ctx) (μ:Ae) (H:AA):AW->Aj->Frame->Prop where
 | plain (fn:FuncId) (t:Tr Value) (n:Nat) (tm:BR) (todo:List B9) (todo':List Item) (ds ds':List Deferred) (r:Bool) (kd:CallKind) (rd rd':Option Nat)
  (ht:Gj μ t n tm) (hi:EU μ todo todo') (hd:CT μ ds ds') (hr:HW μ rd rd'):
  OA X μ H [] ⟨fn,t,n,todo,ds,r,kd,rd⟩ ⟨fn,tm,todo',ds',UI r,kd,rd'⟩
 | drawn (fn:FuncId) (t:Tr Value) (n:Nat) (tm:BR) (ops:Array Oper) (BJ:List PE) (idx D:AW) (G:List (Nat × Nat)) (k:List B9) (k':List Item) (ds ds':List Deferred) (kd:CallKind) (rd rd':Option Nat)
  (hD:FM X μ H ops t n tm D BJ idx G (En X H t BJ)) (hk:EU μ k k') (hd:CT μ ds ds') (hr:HW μ rd rd'):
  OA X μ H (G.map Prod.snd) ⟨fn,t,n,.Ee ops BJ::k,ds,false,kd,rd⟩ ⟨fn,tm,.inRegion ops idx::k',ds',.run,kd,rd'⟩
inductive Dv (X:Ctx) (μ:Ae) (H:AA):AW->List Aj->List Frame->Prop where
 | nil:Dv X μ H [] [] []
 | cons {g gs:AW} {f:Aj} {f':Frame} {l:List Aj} {l':List Frame} (h:Hh X μ H g f f') (t:Dv X μ H gs l l'):Dv X μ H (g++gs) (f::l) (f'::l')
structure FW (gs:AW) (μ:Ae) (H:AA) (μ':Ae) (H':AA):Prop where
 le:μ.le μ'
 next:H.next<=H'.next
 ghost:∀b∈gs,b < H.next->μ b=none->μ' b=none/\H'.get b=H.get b
theorem Ap.keeps {μ':Ae} {H':AA} (h:Ap μ H μ' H') (gs:AW):FW gs μ H μ' H':=⟨h.le,h.next,fun b _=>h.ghost b⟩
theorem FW.sub {gs gs':AW} {μ':Ae} {H':AA} (h:FW gs μ H μ' H') (hs:∀b∈gs',b∈gs):FW gs' μ H μ' H':=⟨h.le,h.next,fun b hb=>h.ghost b (hs b hb)⟩
theorem FW.refl (gs:AW) (μ:Ae) (H:AA):FW gs μ H μ H:=⟨Ae.le_refl _,GO _,fun _ _ _ h=>⟨h,rfl⟩⟩
theorem FW.trans {gs:AW} {μ1 μ2:Ae} {H1 H2:AA} (h:FW gs μ H μ1 H1) (h':FW gs μ1 H1 μ2 H2):FW gs μ H μ2 H2:=
 ⟨Ae.le_trans h.le h'.le,wQ h.next h'.next,fun b hb hlt hm=>
  have h1:=h.ghost b hb hlt hm;have h2:=h'.ghost b hb (nI hlt h.next) h1.1
  ⟨h2.1,h2.2.trans h1.2⟩⟩
theorem NR.mono {μ':Ae} {H':AA} {ops:Array Oper} {t:Tr Value} {G:List (Nat × Nat)} {Fact:Nat->Oper->Nat->Prop} {i:Nat} {o:Oper} (hk:FW (G.map Prod.snd) μ H μ' H') (h:NR X μ H ops t G Fact i o):NR X μ' H' ops t G Fact i o:=by
 obtain⟨d,hd,hc2,h⟩:=h;refine⟨d,hd,hc2,?_⟩;rcases h with h | h | ⟨h1,h2,b,hb,obj,mk,e1,e2,e3,e4,e5⟩
 ·exact .inl h
 ·exact .inr (.inl h)
 ·have hg:=hk.ghost b (List.mem_map.2 ⟨_,hb,rfl⟩) e3 e4;exact .inr (.inr ⟨h1,h2,b,hb,obj,mk,e1,e2,nI e3 hk.next,hg.1,by rw[hg.2];exact e5⟩)
theorem FM.mono {μ':Ae} {H':AA} {ops:Array Oper} {t:Tr Value} {n:Nat} {tm:BR} {D:AW} {BJ:List PE} {idx:AW} {G:List (Nat × Nat)} {Fact:Nat->Oper->Nat->Prop}
 (hk:FW (G.map Prod.snd) μ H μ' H') (h:FM X μ H ops t n tm D BJ idx G Fact):FM X μ' H' ops t n tm D BJ idx G Fact:=
 ⟨h.stat,h.wf,h.Uv,h.J2,h.V8,h.ec,h.sz,fun u hu=>(h.tmp u hu).mono hk.le,fun i o ho h1 h2=>(h.lK i o ho h1 h2).mono hk,h.eZ,h.gZ,fun b hb=>nI (h.eb b hb) hk.next⟩
theorem Hh.mono {g:AW} {μ':Ae} {H':AA} (hk:FW g μ H μ' H') {f:Aj} {f':Frame} (h:Hh X μ H g f f'):Hh X μ' H' g f f':=by
 cases h with
 | plain fn t n tm todo todo' ds ds' r kd rd rd' ht hi hd hr=>exact .plain fn t n tm todo todo' ds ds' r kd rd rd' (ht.mono hk.le) (hi.mono hk.le) (hd.mono hk.le) (hr.mono hk.le)
 | KA fn t n tm ops x o rest idx D G k k' ds ds' kd rd rd' ho hD hkk hd hr=>exact .KA fn t n tm ops x o rest idx D G k k' ds ds' kd rd rd' ho (hD.mono hk) (hkk.mono hk.le) (hd.mono hk.le) (hr.mono hk.le)
theorem Dv.mono {g:AW} {μ':Ae} {H':AA} {f:List Aj} {f':List Frame} (h:Dv X μ H g f f') (hk:FW g μ H μ' H'):Dv X μ' H' g f f':=by
 induction h with
 | nil=>exact .nil
 | cons h _ ih=>exact .cons (h.mono (hk.sub fun b hb=>by simp[hb])) (ih (hk.sub fun b hb=>by simp[hb]))
theorem Hh.lt {g:AW} {f:Aj} {f':Frame} (h:Hh X μ H g f f'):∀b∈g,b < H.next:=by
 cases h with
 | plain=>intro b hb;simp at hb
 | KA fn t n tm ops x o rest idx D G k k' ds ds' kd rd rd' ho hD hkk hd hr=>exact hD.eb
theorem Dv.lt {g:AW} {f:List Aj} {f':List Frame} (h:Dv X μ H g f f'):∀b∈g,b < H.next:=by
 induction h with
 | nil=>intro b hb;simp at hb
 | cons h _ ih=>
  intro b hb;rcases List.mem_append.1 hb with hb | hb
  ·exact h.lt b hb
  ·exact ih b hb
def Bj (X:Ctx) (μ:Ae):Prop:=∀g,X.laid.any (fun p=>Nat.beq g p.1)=true->∃T,μ g=some T/\T.c=g/\T.d=0/\T.e=0/\∀cs,(g,cs)∈X.laid->T.r=cs.length
theorem Bj.mono {μ':Ae} (hl:μ.le μ') (h:Bj X μ):Bj X μ':=fun g hg=>let ⟨T,h1,h2⟩:=h g hg;⟨T,hl _ _ h1,h2⟩
structure JL (X:Ctx) (base:Env) (W0:World) (μ:Ae) (c:BT) (fr:Frame) (cs:List Frame) (W:World):Prop where
 heap:AJ base W0 μ c.H W
 laid:Bj X μ
 Xx:∃g gs,OA X μ c.H g c.fr fr/\Dv X μ c.H gs c.cs cs/\(g++gs).Nodup
def C4 (X:Ctx) (base:Env) (W0:World) (cs0:List Frame) (c':BT) (m:Machine):Prop:=
 ∃μ' fr cs W,Steps X.P m (lone fr (cs++cs0) W)/\JL X base W0 μ' c' fr cs W
theorem OM (hl:Bj X μ) {t:Tr Value} {fr:Frame} (x:Operand) (ht:∀u,x= .tmp u->AH μ (look t u) (fr.tmps.getD u Go.undef)):AH μ (Bt X t x) (fr.eval x):=by
 cases x with
 | tmp i=>exact ht i rfl
 | const v=>
  simp only[Bt,Frame.eval];cases hf:flat v
  ·exact .Bv v
  ·exact D5 hf
 | global g=>
  simp only[Bt,Frame.eval];cases hg:X.laid.any (fun p=>Nat.beq g p.1)
  ·exact .Bv _
  ·obtain⟨T,h1,h2,h3,_⟩:=hl g hg;have:=AH.ptr (μ:=μ) g 0 T h1;rw[h2,h3]at this;exact this
 | func f=>exact AH.CL.2 ⟨_,_,_,rfl,.func f,.nil,.nil⟩
theorem Mj (hl:Bj X μ) {t:Tr Value} {n:Nat} {fr:Frame} (ht:Gj μ t n fr.tmps) (x:Operand):AH μ (Bt X t x) (fr.eval x):=OM hl x fun u _=>ht.2 u
theorem KO {ops:Array Oper} {o:Oper} {t:Tr Value} {tm:BR} (ht:∀j w d,o.guard=some (j,w)->G5 ops j=some d->AH μ (look t d) (tm.getD d Go.undef)) {b:Bool} (h:Cw ops o t=some b):Region.wanted o (yielded ops tm)=b:=by
 unfold Cw at h;unfold Region.wanted;cases hg:o.guard with
 | none=>simp[hg]at h;simp[<-h]
 | some jw=>
  obtain⟨j,want⟩:=jw;simp only[hg]at h ⊢;have ht':=fun d hd=>ht j want d hg hd
  unfold G5 at h ht';rw[Wt]at h ht';unfold yielded;cases hj:ops[j]? with
  | none=>simp[hj]at h;simp[<-h]
  | some oj=>
   simp only[hj]at h ht';cases hd:oj.dst with
   | none=>simp[hd]at h;simp[hd,<-h]
   | some d=>
    simp only[hd]at h ht';have hr:=ht' d rfl;simp only[VC,hd];split at h
    ·rename_i x hx;rw[hx]at hr;have hc:tm[d]? = some (.bool x):=by
      rw[UP]at hr;cases hq:tm[d]? with
      | none=>rw[hq]at hr;simp only[Option.getD_none]at hr;cases hr
      | some q=>rw[hq]at hr;simp only[rU]at hr;cases hr;rfl
     simp only[hc];cases h
     cases want<;>cases x<;>rfl
    ·rename_i xs hx;rw[hx]at hr;cases h
     rw[UP]at hr;cases hq:tm[d]? with
     | none=>rfl
     | some q=>
      rw[hq]at hr;simp only[rU]at hr
      cases hr;rfl
    ·cases h
theorem MR {ops:Array Oper} {o:Oper} {t:Tr Value} {n:Nat} {tm:BR} (ht:Gj μ t n tm) {b:Bool} (h:Cw ops o t=some b):Region.wanted o (yielded ops tm)=b:=KO (fun _ _ d _ _=>ht.2 d) h
end
section
variable {X:Ctx} {base:Env} {W0:World} {μ:Ae} {H:AA} {W:World}
theorem Ef {l:AW} {i:Nat}:OX l i=true ↔ i∈l:=by
 unfold OX;rw[AA9];constructor
 ·rintro⟨x,hx,h⟩;rw[DN h];exact hx
 ·intro h;exact⟨i,h,VX _⟩
theorem K9 {ops:Array Oper} {i:Nat} {o:Oper} (h:ops[i]? = some o):(o,i)∈ops.toList.zipIdx:=by
 rw[List.mk_mem_zipIdx_iff_getElem?,Wt];exact h
theorem UL {a:Option Tmp} {u:Tmp} (h:a=some u):Pe a (some u)=true:=by subst h;exact VX _
theorem MT {P:Program} {ops:Array Oper} (h:MV P ops=true) {i j:Nat} {o oj:Oper} {u:Tmp} (hi:ops[i]? = some o) (hj:ops[j]? = some oj) (hu:u∈Ew ops o) (hd:oj.dst=some u):j∈Fx o∨(CA P oj=2/\i∈Jx ops.toList oj):=by
 have h1:=List.all_eq_true.1 h _ (K9 hi);simp only[Dg]at h1;have h2:=List.all_eq_true.1 (List.all_eq_true.1 h1.1.1 u hu) _ (K9 hj);simp only[UL hd,ABB,yW,vZ,Dg]at h2;rcases h2 with h2 | ⟨h2,h3⟩
 ·exact .inl (Ef.1 h2)
 ·exact .inr ⟨DN h2,Ef.1 h3⟩
theorem jf {P:Program} {ops:Array Oper} (h:MV P ops=true) {i:Nat} {o:Oper} (hi:ops[i]? = some o) (hc:CA P o≠2):∃d,o.dst=some d:=by
 have h1:=List.all_eq_true.1 h _ (K9 hi);simp only[Dg]at h1;have h2:=h1.1.2;rw[vZ]at h2;rcases h2 with h2 | h2
 ·exact absurd (DN h2) hc
 ·exact Option.isSome_iff_exists.1 h2
theorem SC {P:Program} {ops:Array Oper} (h:MV P ops=true) {i j:Nat} {o oj:Oper} {u:Tmp} (hi:ops[i]? = some o) (hj:ops[j]? = some oj) (hne:i≠j) (h1:o.dst=some u) (h2:oj.dst=some u):False:=by
 have h3:=List.all_eq_true.1 h _ (K9 hi);simp only[Dg]at h3;have h4:=List.all_eq_true.1 h3.2 _ (K9 hj);simp only[h1,h2,Pe,VX,ABB,ABA]at h4;exact hne (DN h4)
theorem Pg {ops:List Oper} (S:Nat->Prop) (hS:∀i o,ops[i]? = some o->S i->∀d∈Fx o,S d):∀(f:Nat) (todo seen:AW),(∀i∈todo,S i)->(∀i∈seen,S i)->∀i∈TR ops f todo seen,S i:=by
 intro f;induction f with
 | zero=>intro todo seen _ h2 i hi;exact h2 i hi
 | succ f ih=>
  intro todo seen h1 h2 i hi;unfold TR at hi;split at hi
  ·exact h2 i hi
  ·rename_i j r;cases hs:seen.any (Nat.beq j)
   ·simp only[hs,EB]at hi;split at hi
    ·rename_i o ho;have hj:=h1 j (by simp);refine ih _ _ ?_ ?_ i hi
     ·intro d hd;rcases List.mem_append.1 hd with hd | hd
      ·exact hS j o ho hj d hd
      ·exact h1 d (by simp[hd])
     ·intro d hd;rcases List.mem_cons.1 hd with rfl | hd
      ·exact hj
      ·exact h2 d hd
    ·exact ih _ _ (fun d hd=>h1 d (by simp[hd])) h2 i hi
   ·simp only[hs,C8]at hi;exact ih _ _ (fun d hd=>h1 d (by simp[hd])) h2 i hi
theorem Dq (t:Tr Value) (d:Nat) (v:Value):look (t.put d (some v)) d=v:=by unfold look;rw[Tr.Tm];rfl
theorem EE (t:Tr Value) {d u:Nat} (v:Value) (h:u≠d):look (t.put d (some v)) u=look t u:=by unfold look;rw[Tr.X9 _ _ h]
theorem Ln (tm:BR) {d:Nat} (v:Value) (h:d < tm.size):(tm.setIfInBounds d v).getD d Go.undef=v:=by
 rw[UP,lV];simp[h]
theorem M8 (tm:BR) {d u:Nat} (v:Value) (h:u≠d):(tm.setIfInBounds d v).getD u Go.undef=tm.getD u Go.undef:=by
 rw[UP,lV];simp[Ne.symm h,Array.getD_eq_getD_getElem?]
theorem W6 {t t':Tr Value} {x:Operand} (h:∀u,x= .tmp u->look t' u=look t u):Bt X t' x=Bt X t x:=by
 cases x with
 | tmp u=>exact h u rfl
 | _=>rfl
theorem OY {ops:Array Oper} {o:Oper} {u:Tmp} (h:Operand.tmp u∈o.op.operands):u∈Ew ops o:=by
 unfold Ew;refine List.mem_append_left _ (List.mem_filterMap.2 ⟨.tmp u,by simpa using h,rfl⟩)
theorem KJ {ops:Array Oper} {o:Oper} {j:Nat} {w:Bool} {d:Tmp} (h:o.guard=some (j,w)) (hd:G5 ops j=some d):d∈Ew ops o:=by
 unfold Ew;refine List.mem_append_right _ ?_;simp only[h,hd];simp
theorem Gv {ops:Array Oper} {o:Oper} {t t':Tr Value} (h:∀u∈Ew ops o,look t' u=look t u):Cw ops o t'=Cw ops o t:=by
 unfold Cw;cases hg:o.guard with
 | none=>rfl
 | some jw=>
  obtain⟨j,w⟩:=jw;simp only;cases hd:G5 ops j with
  | none=>rfl
  | some d=>
   simp only;rw[h d (KJ hg hd)]
theorem Nf {ops:Array Oper} {o:Oper} {t t':Tr Value} (h:∀u∈Ew ops o,look t' u=look t u) (H:AA):ML X.P (Bt X t') o H=ML X.P (Bt X t) o H:=
 I9 o fun x hx=>W6 fun u hu=>h u (OY (by rw[<-hu];exact hx))
theorem NR.congr {ops:Array Oper} {t t':Tr Value} {G:List (Nat × Nat)} {Fact Fact':Nat->Oper->Nat->Prop} {i:Nat} {o:Oper} (hr:∀u∈Ew ops o,look t' u=look t u) (hd:∀d,o.dst=some d->look t' d=look t d)
 (hf:∀d,o.dst=some d->Cw ops o t=some true->CA X.P o=0->Fact i o d->Fact' i o d) (h:NR X μ H ops t G Fact i o):NR X μ H ops t' G Fact' i o:=by
 obtain⟨d,h1,h0,h2⟩:=h;refine⟨d,h1,h0,?_⟩;rw[Gv hr,hd d h1];rcases h2 with h2 | ⟨a,b,c⟩ | ⟨a,b,q,hq,obj,mk,e1,e2,e3⟩
 ·exact .inl h2
 ·exact .inr (.inl ⟨a,b,hf d h1 a b c⟩)
 ·exact .inr (.inr ⟨a,b,q,hq,obj,mk,e1,fun H2=>by rw[Nf hr];exact e2 H2,e3⟩)
theorem Hm {P:Program} {ops:Array Oper} {D:AW} {i:Nat} {o:Oper} {rest:List PE} (h:EY P ops D (.op i o::rest)=true):i∉D/\(∀d∈Fx o,d∈D)/\EY P ops (i::D) rest=true/\
 (CA P o=2->(∀j oj,ops[j]? = some oj->j∈D∨j=i∨i∈Jx ops.toList oj)/\∀j oj,j∈D->ops[j]? = some oj->CA P oj=0->j∈Jx ops.toList o∨j∈lead rest):=by
 unfold EY at h;simp only[Dg,sd]at h;obtain⟨⟨⟨h1,h2⟩,h3⟩,h4⟩:=h;refine⟨(fun hm=>by rw[Ef.2 hm]at h1;cases h1),fun d hd=>Ef.1 (List.all_eq_true.1 h2 d hd),h4,fun hc=>?_⟩;rw[hc]at h3;simp only[VX,C8,Dg]at h3;refine⟨fun j oj hj=>?_,fun j oj hj hoj hc0=>?_⟩
 ·have:=List.all_eq_true.1 h3.1 _ (K9 hj);simp only[vZ]at this;rcases this with(h5 | h5) | h5
  ·exact .inl (Ef.1 h5)
  ·exact .inr (.inl (DN h5))
  ·exact .inr (.inr (Ef.1 h5))
 ·have:=List.all_eq_true.1 h3.2 j hj;rw[Wt,hoj]at this;simp only[hc0,VX,ABB,yW,vZ]at this;exact this.imp Ef.1 Ef.1
theorem FM.apart {ops:Array Oper} {t:Tr Value} {n:Nat} {tm:BR} {D:AW} {BJ:List PE} {idx:AW} {G:List (Nat × Nat)} {Fact:Nat->Oper->Nat->Prop} (h:FM X μ H ops t n tm D BJ idx G Fact)
 {x j:Nat} {o oj:Oper} {d:Tmp} (hx:ops[x]? = some o) (hxD:x∉D) (hd:o.dst=some d) (hj:ops[j]? = some oj) (hjD:j∈D) (hdis:CA X.P o=2->j∉Jx ops.toList o):d∉Ew ops oj/\oj.dst≠some d:=by
 refine⟨fun hr=>(MT h.stat hj hx hr hd).elim (fun q=>hxD (h.ec j oj hj hjD x q)) fun q=>hdis q.1 q.2,fun e=>?_⟩;exact SC h.stat hx hj (by rintro rfl;exact hxD hjD) hd e
theorem FM.advance {ops:Array Oper} {t t':Tr Value} {n x:Nat} {tm tm':BR} {D:AW} {rest:List PE} {idx:AW} {G:List (Nat × Nat)} {o:Oper} {v v':Value} (ho:ops[x]? = some o)
 (h:FM X μ H ops t n tm D (.op x o::rest) (x::idx) G (Q2 rest)) (hv:AH μ v v')
 (hs:(∃d,o.dst=some d/\d < n/\t'=t.put d (some v)/\tm'=tm.setIfInBounds d v')∨(o.dst=none/\t'=t/\tm'=tm)):FM X μ H ops t' n tm' (x::D) rest idx G (En X H t' rest):=by
 obtain⟨hxD,hdeps,hok,hcls⟩:=Hm h.Uv;obtain⟨⟨o2,ho2,hdx⟩,hxi,htopo⟩:=h.J2;rw[ho]at ho2;cases ho2
 have hlook:∀u,o.dst≠some u->look t' u=look t u:=by
  intro u hu;rcases hs with⟨d,hd,_,rfl,_⟩ | ⟨_,rfl,_⟩
  ·exact EE t v (by rintro rfl;exact hu hd)
  ·rfl
 refine⟨h.stat,fun e he=>h.wf e (by simp[he]),hok,htopo,?_,?_,?_,?_,?_,?_,h.gZ,h.eb⟩
 ·intro i oi hi hni
  by_cases e:i=x
  ·subst e;rw[ho]at hi;cases hi
   exact⟨by simp,fun d hd hm=>hdx d hd (by simp[hm])⟩
  ·obtain⟨h1,h2⟩:=h.V8 i oi hi (by simp[e,hni]);exact⟨by simp[h1],fun d hd hm=>h2 d hd (by simp[hm])⟩
 ·intro i oi hi hiD d hd;rcases List.mem_cons.1 hiD with rfl | hiD
  ·rw[ho]at hi;cases hi;simp[hdeps d hd]
  ·simp[h.ec i oi hi hiD d hd]
 ·rcases hs with⟨d,_,_,_,rfl⟩ | ⟨_,_,rfl⟩
  ·simp[h.sz]
  ·exact h.sz
 ·intro u hu;have hold:(∀i oi,ops[i]? = some oi->i∈D->i∈x::idx->oi.dst≠some u):=by
   intro i oi hi hiD him;rcases List.mem_cons.1 him with rfl | him
   ·exact absurd hiD hxD
   ·exact hu i oi hi (by simp[hiD]) him
  have hu0:=h.tmp u hold;rcases hs with⟨d,hd,hdn,rfl,rfl⟩ | ⟨_,rfl,rfl⟩
  ·by_cases e:u=d
   ·subst e;rw[Dq,Ln _ _ (by rw[h.sz];exact hdn)];exact hv
   ·rw[EE _ _ e,M8 _ _ e];exact hu0
  ·exact hu0
 ·intro i oi hi hiD him;have hix:i≠x:=by rintro rfl;exact hxi him
  have hiD':i∈D:=by
   rcases List.mem_cons.1 hiD with e | e
   ·exact absurd e hix
   ·exact e
  have hp:=h.lK i oi hi hiD' (by simp[him]);have hdis:CA X.P o=2->i∉Jx ops.toList o:=fun _ ha=>by
   refine Pg (ops:=ops.toList) (fun q=>q∉x::idx) (fun q oq hq hnq=>?_) _ _ _ (fun q hq=>hdx q hq) (fun q hq=>by cases hq) i ha (by simp[him]);rw[Wt]at hq;exact(h.V8 q oq hq hnq).2
  refine hp.congr (fun u hu=>hlook u fun e=>(h.apart ho hxD e hi hiD' hdis).1 hu) (fun d hd=>hlook d fun e=>(h.apart ho hxD e hi hiD' hdis).2 hd) fun d _ _ _ hf=> .inl hf
 ·intro i oi d hi hiD hd;rcases List.mem_cons.1 hiD with rfl | hiD
  ·rw[ho]at hi;cases hi
   rcases hs with⟨d2,hd2,hlt,_,_⟩ | ⟨hn,_,_⟩
   ·rw[hd2]at hd;cases hd;exact hlt
   ·rw[hn]at hd;cases hd
  ·exact h.eZ i oi d hi hiD hd
theorem Dl {g:AW} {f:Aj} {f':Frame} {f1:Aj} {v v':Value} (hf:Hh X μ H g f f') (hv:AH μ v v') (h:CG f v=some f1):OA X μ H g f1 (f'.finish v'):=by
 cases hf with
 | plain fn t n tm todo todo' ds ds' r kd rd rd' ht hi hd hr=>
  unfold CG at h;rw[K6]at h;simp only at h;split at h
  ·rename_i ops o rest k;cases hi with
   | cons h1 h2=>
    cases h1 with
    | Kr _ _ idx hidx=>
     cases idx with
     | nil=>simp at hidx
     | cons i idx=>
      simp only[Sm,Nh]at hidx;split at h
      ·rename_i d hdst;cases hlt:Nat.blt d n
       ·simp[hlt]at h
       ·simp only[hlt,C8,C5]at h;subst h;simp only[Frame.finish,hidx.1,VC,hdst];exact .plain fn _ n _ _ _ ds ds' r kd rd rd' (ht.put (BE hlt) hv) (.cons (.Kr ops rest idx hidx.2) h2) hd hr
      ·rename_i hdst;cases h
       simp only[Frame.finish,hidx.1,VC,hdst];exact .plain fn _ n _ _ _ ds ds' r kd rd rd' ht (.cons (.Kr ops rest idx hidx.2) h2) hd hr
  ·rename_i ops i o rest k;cases hi with
   | cons h1 h2=>cases h1
  ·rename_i l k;cases h
   cases hi with
   | cons h1 h2=>
    cases h1 with
    | inRangeFunc _ T hT=>exact .plain fn _ n _ _ _ ds ds' r kd rd rd' ht (.cons (.endRangeFunc l T hT) h2) hd hr
  ·rename_i k;cases h
   cases hi with
   | cons h1 h2=>
    cases h1
    exact .plain fn _ n _ _ _ ds ds' r kd rd rd' ht h2 hd hr
  ·cases h
 | KA fn t n tm ops x o rest idx D G k k' ds ds' kd rd rd' ho hD hk hd hr=>
  unfold CG at h;rw[K6]at h;simp only at h;split at h
  ·rename_i d hdst;cases hlt:Nat.blt d n
   ·simp[hlt]at h
   ·simp only[hlt,C8,C5]at h;subst h;simp only[Frame.finish,ho,VC,hdst];exact .drawn fn _ n _ ops rest idx (x::D) G k k' ds ds' kd rd rd' (hD.advance ho hv (.inl ⟨d,hdst,BE hlt,rfl,rfl⟩)) hk hd hr
  ·rename_i hdst;cases h
   simp only[Frame.finish,ho,VC,hdst];exact .drawn fn _ n _ ops rest idx (x::D) G k k' ds ds' kd rd rd' (hD.advance ho hv (.inr ⟨hdst,rfl,rfl⟩)) hk hd hr
end
section
variable {W:World}
section
variable {P:Program} {fn:FuncId} {tm:BR} {k:List Item} {ds:List Deferred} {kd:CallKind} {rd:Option Nat} {cs:List Frame}
theorem wi {a b:Code}:step P (lone ⟨fn,tm,.code (.seq a b)::k,ds,.run,kd,rd⟩ cs W)= .next (lone ⟨fn,tm,.code a:: .code b::k,ds,.run,kd,rd⟩ cs W):=step_lone_go (by simp[stepG,stepG.exec])
theorem uR:step P (lone ⟨fn,tm,.code .skip::k,ds,.run,kd,rd⟩ cs W)= .next (lone ⟨fn,tm,k,ds,.run,kd,rd⟩ cs W):=step_lone_go (by simp[stepG,stepG.exec])
theorem la {l:Nat}:step P (lone ⟨fn,tm,.code (.label l)::k,ds,.run,kd,rd⟩ cs W)= .next (lone ⟨fn,tm,k,ds,.run,kd,rd⟩ cs W):=step_lone_go (by simp[stepG,stepG.exec])
theorem bo {l:Nat}:step P (lone ⟨fn,tm,.inBlock l::k,ds,.run,kd,rd⟩ cs W)= .next (lone ⟨fn,tm,k,ds,.run,kd,rd⟩ cs W):=step_lone_go (by simp[stepG,stepG.exec])
theorem bp {b:Code}:step P (lone ⟨fn,tm,.inScope b::k,ds,.run,kd,rd⟩ cs W)= .next (lone ⟨fn,tm,k,ds,.run,kd,rd⟩ cs W):=step_lone_go (by simp[stepG,stepG.exec])
theorem mf {l:Nat} {b:Code}:step P (lone ⟨fn,tm,.code (.block l b)::k,ds,.run,kd,rd⟩ cs W)= .next (lone ⟨fn,tm,.code b:: .inBlock l::k,ds,.run,kd,rd⟩ cs W):=step_lone_go (by simp[stepG,stepG.exec])
theorem uJ {b:Code}:step P (lone ⟨fn,tm,.code (.loop b)::k,ds,.run,kd,rd⟩ cs W)= .next (lone ⟨fn,tm,.code b:: .inLoop b::k,ds,.run,kd,rd⟩ cs W):=step_lone_go (by simp[stepG,stepG.exec])
theorem fZ {b:Code}:step P (lone ⟨fn,tm,.inLoop b::k,ds,.run,kd,rd⟩ cs W)= .next (lone ⟨fn,tm,.code b:: .inLoop b::k,ds,.run,kd,rd⟩ cs W):=step_lone_go (by simp[stepG,stepG.exec])
theorem oW {b:Code}:step P (lone ⟨fn,tm,.code (.scope b)::k,ds,.run,kd,rd⟩ cs W)= .next (lone ⟨fn,tm,.code b:: .inScope b::k,ds,.run,kd,rd⟩ cs W):=step_lone_go (by simp[stepG,stepG.exec])
theorem so {c:Operand} {a b:Code} {x:Bool} (h:Frame.eval ⟨fn,tm,.code (.cond c a b)::k,ds,.run,kd,rd⟩ c= .bool x):
 step P (lone ⟨fn,tm,.code (.cond c a b)::k,ds,.run,kd,rd⟩ cs W)= .next (lone ⟨fn,tm,.code (bif x then a else b)::k,ds,.run,kd,rd⟩ cs W):=
 step_lone_go (by cases x<;>simp[stepG,stepG.exec,h])
theorem sC {id:Nat} {k':List Item} (h:exitTo id k=some k'):step P (lone ⟨fn,tm,.code (.exit id)::k,ds,.run,kd,rd⟩ cs W)= .next (lone ⟨fn,tm,k',ds,.run,kd,rd⟩ cs W):=
 step_lone_go (by simp[stepG,stepG.exec,h])
theorem kz {id:Nat} {ops:Array Oper}:step P (lone ⟨fn,tm,.code (.region id ops false)::k,ds,.run,kd,rd⟩ cs W)= .next (lone ⟨fn,tm,.inRegion ops (List.range ops.size)::k,ds,.run,kd,rd⟩ cs W):=step_lone_go (by simp[stepG,stepG.exec])
theorem On {ops:Array Oper}:step P (lone ⟨fn,tm,.inRegion ops []::k,ds,.run,kd,rd⟩ cs W)= .next (lone ⟨fn,tm,k,ds,.run,kd,rd⟩ cs W):=step_lone_go (by simp[stepG,stepG.exec])
theorem P5 {ops:Array Oper} {i:Nat} {o:Oper} {rest:AW} (ho:ops[i]? = some o) (hw:Region.wanted o (yielded ops tm)=false):
 step P (lone ⟨fn,tm,.inRegion ops (i::rest)::k,ds,.run,kd,rd⟩ cs W)= .next (lone (Frame.finish ⟨fn,tm,.inRegion ops (i::rest)::k,ds,.run,kd,rd⟩ Go.undef) cs W):=
 step_lone_go (by simp[stepG,stepG.exec,ho,hw])
theorem kP {ops:Array Oper} {i:Nat} {o:Oper} {rest:AW} (ho:ops[i]? = some o) (hw:Region.wanted o (yielded ops tm)=true) (hnd:∀c,o.op= .defer c->rd=none) {nx:Next} {v:Value} {W':World}
 (hr:(execOp (Frame.eval ⟨fn,tm,.inRegion ops (i::rest)::k,ds,.run,kd,rd⟩) o).run P W= .ok nx W') (hf:Fin nx v):
 step P (lone ⟨fn,tm,.inRegion ops (i::rest)::k,ds,.run,kd,rd⟩ cs W)= .next (lone (Frame.finish ⟨fn,tm,.inRegion ops (i::rest)::k,ds,.run,kd,rd⟩ v) cs W'):=by
 refine step_lone_go ?_;have hop:stepG.oper P true ⟨fn,tm,.inRegion ops (i::rest)::k,ds,.run,kd,rd⟩ cs none W=stepG.apply P true ⟨fn,tm,.inRegion ops (i::rest)::k,ds,.run,kd,rd⟩ cs none (execOp (Frame.eval ⟨fn,tm,.inRegion ops (i::rest)::k,ds,.run,kd,rd⟩) o) W:=by
  simp only[stepG.oper,Frame.oper?,ho];cases rd with
  | none=>rfl
  | some l=>cases hq:o.op with
   | defer c=>exact absurd (hnd c hq) (by simp)
   | _=>rfl
 simp only[stepG,stepG.exec,ho,hw,dH,rU,AAR];rw[hop];rcases hf with rfl | ⟨rfl,rfl⟩<;>simp[stepG.apply,hr]
theorem dQ {ops:Array Oper} {i:Nat} {o:Oper} {rest:AW} (ho:ops[i]? = some o) (hw:Region.wanted o (yielded ops tm)=true) (hnd:∀c,o.op= .defer c->rd=none) {W':World}
 (hr:(execOp (Frame.eval ⟨fn,tm,.inRegion ops (i::rest)::k,ds,.run,kd,rd⟩) o).run P W= .ok .recover W') (hrd:rd=none) (hn:tryRecover ⟨fn,tm,.inRegion ops (i::rest)::k,ds,.run,kd,rd⟩ cs=none):
 step P (lone ⟨fn,tm,.inRegion ops (i::rest)::k,ds,.run,kd,rd⟩ cs W)= .next (lone (Frame.finish ⟨fn,tm,.inRegion ops (i::rest)::k,ds,.run,kd,rd⟩ .nilIface) cs W'):=by
 refine step_lone_go ?_;have hop:stepG.oper P true ⟨fn,tm,.inRegion ops (i::rest)::k,ds,.run,kd,rd⟩ cs none W=stepG.apply P true ⟨fn,tm,.inRegion ops (i::rest)::k,ds,.run,kd,rd⟩ cs none (execOp (Frame.eval ⟨fn,tm,.inRegion ops (i::rest)::k,ds,.run,kd,rd⟩) o) W:=by
  simp only[stepG.oper,Frame.oper?,ho];cases rd with
  | none=>rfl
  | some l=>cases hq:o.op with
   | defer c=>exact absurd (hnd c hq) (by simp)
   | _=>rfl
 simp only[stepG,stepG.exec,ho,hw,dH,rU,AAR];rw[hop];subst hrd;simp[stepG.apply,hr,hn]
theorem rT {ops:Array Oper} {i:Nat} {o:Oper} {rest:AW} (ho:ops[i]? = some o) (hw:Region.wanted o (yielded ops tm)=true) (hnd:∀c,o.op= .defer c->rd=none) {f:FuncId} {args:BR} {W':World}
 (hr:(execOp (Frame.eval ⟨fn,tm,.inRegion ops (i::rest)::k,ds,.run,kd,rd⟩) o).run P W= .ok (.enter f args) W'):
 step P (lone ⟨fn,tm,.inRegion ops (i::rest)::k,ds,.run,kd,rd⟩ cs W)= .next (lone (Frame.enter P f args .normal) (⟨fn,tm,.inRegion ops (i::rest)::k,ds,.run,kd,rd⟩::cs) W'):=by
 refine step_lone_go ?_;have hop:stepG.oper P true ⟨fn,tm,.inRegion ops (i::rest)::k,ds,.run,kd,rd⟩ cs none W=stepG.apply P true ⟨fn,tm,.inRegion ops (i::rest)::k,ds,.run,kd,rd⟩ cs none (execOp (Frame.eval ⟨fn,tm,.inRegion ops (i::rest)::k,ds,.run,kd,rd⟩) o) W:=by
  simp only[stepG.oper,Frame.oper?,ho];cases rd with
  | none=>rfl
  | some l=>cases hq:o.op with
   | defer c=>exact absurd (hnd c hq) (by simp)
   | _=>rfl
 simp only[stepG,stepG.exec,ho,hw,dH,rU,AAR];rw[hop];simp[stepG.apply,hr]
theorem oQ {ops:Array Oper} {i:Nat} {o:Oper} {rest:AW} (ho:ops[i]? = some o) (hw:Region.wanted o (yielded ops tm)=true) (hnd:∀c,o.op= .defer c->rd=none) {l f:Nat} {t:BR} {a b:Code} {W':World}
 (hr:(execOp (Frame.eval ⟨fn,tm,.inRegion ops (i::rest)::k,ds,.run,kd,rd⟩) o).run P W= .ok (.round l f t a b) W'):
 step P (lone ⟨fn,tm,.inRegion ops (i::rest)::k,ds,.run,kd,rd⟩ cs W)= .next (lone (Frame.round l f t a b .normal) (⟨fn,tm,.inRegion ops (i::rest)::k,ds,.run,kd,rd⟩::cs) W'):=by
 refine step_lone_go ?_;have hop:stepG.oper P true ⟨fn,tm,.inRegion ops (i::rest)::k,ds,.run,kd,rd⟩ cs none W=stepG.apply P true ⟨fn,tm,.inRegion ops (i::rest)::k,ds,.run,kd,rd⟩ cs none (execOp (Frame.eval ⟨fn,tm,.inRegion ops (i::rest)::k,ds,.run,kd,rd⟩) o) W:=by
  simp only[stepG.oper,Frame.oper?,ho];cases rd with
  | none=>rfl
  | some l=>cases hq:o.op with
   | defer c=>exact absurd (hnd c hq) (by simp)
   | _=>rfl
 simp only[stepG,stepG.exec,ho,hw,dH,rU,AAR];rw[hop];simp[stepG.apply,hr]
theorem nP {ops:Array Oper} {i:Nat} {o:Oper} {rest:AW} {d:Deferred} (ho:ops[i]? = some o) (hw:Region.wanted o (yielded ops tm)=true)
 (hr:(execOp (Frame.eval ⟨fn,tm,.inRegion ops (i::rest)::k,ds,.run,kd,none⟩) o).run P W= .ok (.defer d) W):
 step P (lone ⟨fn,tm,.inRegion ops (i::rest)::k,ds,.run,kd,none⟩ cs W)= .next (lone (Frame.finish ⟨fn,tm,.inRegion ops (i::rest)::k,d::ds,.run,kd,none⟩ Go.undef) cs W):=by
 refine step_lone_go ?_;simp only[stepG,stepG.exec,ho,hw,dH,rU,AAR,stepG.oper,Frame.oper?];simp[stepG.apply,hr]
theorem mD (todo:List Item) (h:todo=[]∨∃k,todo= .code .ret::k):step P (lone ⟨fn,tm,todo,ds,.run,kd,none⟩ cs W)= .next (lone ⟨fn,tm,todo,ds,.returning,kd,none⟩ cs W):=by
 rcases h with rfl | ⟨k,rfl⟩<;>exact step_lone_go (by simp[stepG,stepG.exec])
theorem ZR {f:FuncId} {args:BR} {d:Deferred} {todo:List Item} {W':World} (hnc:∀b,d.target≠ .collected b) (hr:(invoke d.target d.args).run P W= .ok (.enter f args) W'):
 step P (lone ⟨fn,tm,todo,d::ds,.returning,kd,rd⟩ cs W)= .next (lone (Frame.enter P f args .deferred) (⟨fn,tm,todo,ds,.returning,kd,rd⟩::cs) W'):=by
 refine step_lone_go ?_;obtain⟨t,a⟩:=d;cases t<;>first | exact absurd rfl (hnc _) | simp[stepG,unwind,callDeferred,hr]
theorem Pw {b:Nat} {a:BR} {l:List Deferred} {todo:List Item} {W':World} (hr:(Instr.takeDeferred b).run P W= .ok l W'):
 step P (lone ⟨fn,tm,todo,⟨.collected b,a⟩::ds,.returning,kd,rd⟩ cs W)= .next (lone ⟨fn,tm,todo,l++ds,.returning,kd,rd⟩ cs W'):=
 step_lone_go (by simp[stepG,unwind,hr])
theorem gQ {f:Func} {v:Value} {todo:List Item} {c:Frame} (hf:P.funcs[fn]? = some f) (hr:(results f tm).run P W= .ok v W):
 step P (lone ⟨fn,tm,todo,[],.returning,.normal,rd⟩ (c::cs) W)= .next (lone (c.finish v) cs W):=
 step_lone_go (by simp[stepG,unwind,doReturn,hf,hr])
theorem eI {f:Func} {v:Value} {todo:List Item} {c:Frame} (hf:P.funcs[fn]? = some f) (hr:(results f tm).run P W= .ok v W) (hm:c.mode= .returning∨c.mode= .run):
 step P (lone ⟨fn,tm,todo,[],.returning,.deferred,rd⟩ (c::cs) W)= .next (lone c cs W):=by
 obtain⟨a1,a2,a3,a4,a5,a6,a7⟩:=c;rcases hm with hm | hm<;>(simp only at hm;subst hm;exact step_lone_go (by simp[stepG,unwind,doReturn,hf,hr]))
end
section
variable {P:Program} {fn:FuncId} {tm:BR} {k:List Item} {ds:List Deferred} {kd:CallKind} {rd:Option Nat} {cs:List Frame}
theorem G0 {w:World} {l:Nat} {r:Loop} (h:w.heap[l]? = some (.loop r)):(Instr.getLoop l).run P w= .ok r w:=by
 simp[Instr.getLoop,KF (P:=P) h (by intro c t f;simp)]
theorem Mm {l:Nat} {r:Loop} {j:Option Code} (h:W.heap[l]? = some (.loop r)):(Instr.endRound l j).run P W=
 .ok (.bool j.isNone) { W with heap:=W.heap.setIfInBounds l (.loop { r with state:=if j.isNone then .ready else .done,pending:=j }) }:=by
 simp[Instr.endRound,G0 (P:=P) h,HG (P:=P) h (by intro c t f;simp)]
theorem ZQ {l:Nat} {r:Loop} {j:Option Code} {c:Frame} {todo:List Item} (h:W.heap[l]? = some (.loop r))
 (ht:(todo=[]/\j=none)∨(∃k,todo= .code .ret::k/\j=some .ret)∨∃id k,todo= .code (.exit id)::k/\exitTo id k=none/\j=some (.exit id)):
 step P (lone ⟨fn,tm,todo,ds,.run,.normal,some l⟩ (c::cs) W)=
  .next (lone (c.finish (.bool j.isNone)) cs { W with heap:=W.heap.setIfInBounds l (.loop { r with state:=if j.isNone then .ready else .done,pending:=j }) }):=by
 have hr:=Mm (P:=P) (j:=j) h;rcases ht with⟨rfl,rfl⟩ | ⟨k,rfl,rfl⟩ | ⟨id,k,rfl,he,rfl⟩
 ·exact step_lone_go (by simp[stepG,stepG.exec,hr,doReturn])
 ·exact step_lone_go (by simp[stepG,stepG.exec,hr,doReturn])
 ·exact step_lone_go (by simp[stepG,stepG.exec,hr,doReturn,he])
theorem UK {l:Nat} {r:Loop} (h:W.heap[l]? = some (.loop r)) (hs:r.state= .ready):
 step P (lone ⟨fn,tm,.beginRound::k,ds,.run,kd,some l⟩ cs W)= .next (lone ⟨fn,tm,k,ds,.run,kd,some l⟩ cs { W with heap:=W.heap.setIfInBounds l (.loop { r with state:= .busy }) }):=by
 have hr:(Instr.beginRound l).run P W= .ok () { W with heap:=W.heap.setIfInBounds l (.loop { r with state:= .busy }) }:=by
  simp[Instr.beginRound,G0 (P:=P) h,HG (P:=P) h (by intro c t f;simp),hs]
 refine step_lone_go ?_;simp only[stepG,stepG.exec,Option.elim];simp[stepG.apply,hr,Frame.finish]
theorem dj {l:Nat} {r:Loop} (h:W.heap[l]? = some (.loop r)) (hs:r.state≠ .busy):
 step P (lone ⟨fn,tm,.endRangeFunc l::k,ds,.run,kd,rd⟩ cs W)= .next (lone ⟨fn,tm,(r.pending.map Item.code).toList++k,ds,.run,kd,rd⟩ cs { W with heap:=W.heap.setIfInBounds l (.loop { r with state:= .exhausted }) }):=by
 have hr:(Instr.endLoop l).run P W= .ok r.pending { W with heap:=W.heap.setIfInBounds l (.loop { r with state:= .exhausted }) }:=by
  simp[Instr.endLoop,G0 (P:=P) h,HG (P:=P) h (by intro c t f;simp),hs]
 exact step_lone_go (by simp[stepG,stepG.exec,hr])
end
theorem Rf {fn:FuncId} {tm:BR} {ps:Array Tmp} {a b:Code} {P:Program}:(Instr.enterLoop fn tm ps a b none).run P W=
 .ok (W.heap.size+1,[{ target:= .collected W.heap.size,args:=#[] }]) ((W.alloc (.deferred (some []))).alloc (.loop { state:= .ready,pending:=none,fn,tmps:=tm,params:=ps,assign:=a,body:=b,defers:=W.heap.size })):=by
 simp[Instr.enterLoop]
theorem QB {fn:FuncId} {tm:BR} {ps:Array Tmp} {a b:Code} {P:Program} {l:Nat} {r:Loop} (h:W.heap[l]? = some (.loop r)):(Instr.enterLoop fn tm ps a b (some l)).run P W=
 .ok (W.heap.size,[]) (W.alloc (.loop { state:= .ready,pending:=none,fn,tmps:=tm,params:=ps,assign:=a,body:=b,defers:=r.defers })):=by
 simp[Instr.enterLoop,G0 (P:=P) h]
section
variable {P:Program} {fn:FuncId} {tm:BR} {k:List Item} {ds:List Deferred} {kd:CallKind} {rd:Option Nat} {cs:List Frame}
theorem Wc {f:Operand} {ps:Array Tmp} {a b:Code} {l:Nat} {mark:List Deferred} {W' W2:World} {g:FuncId} {args:BR}
 (hl:(Instr.enterLoop fn tm ps a b rd).run P W= .ok (l,mark) W')
 (hr:(do let d ←resolve (Frame.eval ⟨fn,tm,.inRangeFunc l::k,mark++ds,.run,kd,rd⟩) { callee:= .value f,args:=#[.const (.func (.yield l) #[] #[])],argTypes:=#[] } 0;invoke d.target d.args:Sem Next).run P W'= .ok (.enter g args) W2):
 step P (lone ⟨fn,tm,.code (.rangeFunc f ps a b)::k,ds,.run,kd,rd⟩ cs W)= .next (lone (Frame.enter P g args .normal) (⟨fn,tm,.inRangeFunc l::k,mark++ds,.run,kd,rd⟩::cs) W2):=by
 refine step_lone_go ?_;simp only[stepG,stepG.exec,Sem.runT_eq,hl,GStep.bare_after];simp only[stepG.apply,Sem.runT_eq,AAR,GStep.bare_after];rw[hr];rfl
theorem T5 {f:Operand} {ps:Array Tmp} {a b:Code} {l:Nat} {mark:List Deferred} {W' W2:World} {l2 g:Nat} {t2:BR} {a2 b2:Code}
 (hl:(Instr.enterLoop fn tm ps a b rd).run P W= .ok (l,mark) W')
 (hr:(do let d ←resolve (Frame.eval ⟨fn,tm,.inRangeFunc l::k,mark++ds,.run,kd,rd⟩) { callee:= .value f,args:=#[.const (.func (.yield l) #[] #[])],argTypes:=#[] } 0;invoke d.target d.args:Sem Next).run P W'= .ok (.round l2 g t2 a2 b2) W2):
 step P (lone ⟨fn,tm,.code (.rangeFunc f ps a b)::k,ds,.run,kd,rd⟩ cs W)= .next (lone (Frame.round l2 g t2 a2 b2 .normal) (⟨fn,tm,.inRangeFunc l::k,mark++ds,.run,kd,rd⟩::cs) W2):=by
 refine step_lone_go ?_;simp only[stepG,stepG.exec,Sem.runT_eq,hl,GStep.bare_after];simp only[stepG.apply,Sem.runT_eq,AAR,GStep.bare_after];rw[hr];rfl
end
end
section
variable {X:Ctx} {base:Env} {W0:World} {μ:Ae} {H:AA} {W:World}
theorem FM.flush {μ':Ae} {G':List (Nat × Nat)} {ops:Array Oper} {t:Tr Value} {n j d:Nat} {tm:BR} {D:AW} {BJ:List PE} {idx:AW} {G:List (Nat × Nat)} {Fact:Nat->Oper->Nat->Prop} {o:Oper} {v':Value}
 (h:FM X μ H ops t n tm D BJ (j::idx) G Fact) (ho:ops[j]? = some o) (hjD:j∈D) (hd:o.dst=some d) (hle:μ.le μ') (hv:AH μ' (look t d) v')
 (hG:∀i b,i≠j->(i,b)∈G->b < H.next->μ b=none->(i,b)∈G'/\μ' b=none) (hsub:(G'.map Prod.snd).Sublist (G.map Prod.snd)):FM X μ' H ops t n (tm.setIfInBounds d v') D BJ idx G' Fact:=by
 obtain⟨⟨o2,ho2,hdx⟩,hji,htopo⟩:=h.J2;rw[ho]at ho2;cases ho2
 refine⟨h.stat,h.wf,h.Uv,htopo,?_,h.ec,by simp[h.sz],?_,?_,h.eZ,h.gZ.sublist hsub,fun b hb=>h.eb b (hsub.subset hb)⟩
 ·intro i oi hi hni
  by_cases e:i=j
  ·subst e;rw[ho]at hi;cases hi
   exact⟨hjD,fun q hq hm=>hdx q hq (by simp[hm])⟩
  ·obtain⟨h1,h2⟩:=h.V8 i oi hi (by simp[e,hni]);exact⟨h1,fun q hq hm=>h2 q hq (by simp[hm])⟩
 ·intro u hu
  by_cases e:u=d
  ·subst e;rw[Ln _ _ (by rw[h.sz];exact h.eZ j o u ho hjD hd)];exact hv
  ·rw[M8 _ _ e];refine(h.tmp u ?_).mono hle;intro i oi hi hiD him;rcases List.mem_cons.1 him with rfl | him
   ·rw[ho]at hi;cases hi
    rw[hd];simp;exact fun q=>e q.symm
   ·exact hu i oi hi hiD him
 ·intro i oi hi hiD him;have hij:i≠j:=by rintro rfl;exact hji him
  obtain⟨q,h1,h0,h2⟩:=h.lK i oi hi hiD (by simp[him]);refine⟨q,h1,h0,?_⟩;rcases h2 with h2 | h2 | ⟨a,b,c,hc,obj,mk,e1,e2,e3,e4,e5⟩
  ·exact .inl h2
  ·exact .inr (.inl h2)
  ·obtain⟨g1,g2⟩:=hG i c hij hc e3 e4;exact .inr (.inr ⟨a,b,c,g1,obj,mk,e1,e2,e3,g2,e5⟩)
theorem dC {G:List (Nat × Nat)} (h:(G.map Prod.snd).Nodup) {i j b:Nat} (hi:(i,b)∈G) (hj:(j,b)∈G):i=j:=by
 induction G with
 | nil=>cases hi
 | cons a G ih=>
  simp only[Sm,lW]at h;rcases List.mem_cons.1 hi with e1 | hi'<;>rcases List.mem_cons.1 hj with e2 | hj'
  ·rw[<-e1]at e2;cases e2;rfl
  ·exact absurd (List.mem_map.2 ⟨_,hj',rfl⟩) (by rw[<-e1]at h;exact h.1)
  ·exact absurd (List.mem_map.2 ⟨_,hi',rfl⟩) (by rw[<-e2]at h;exact h.1)
  ·exact ih h.2 hi' hj'
theorem FM.reads {ops:Array Oper} {t:Tr Value} {n j:Nat} {tm:BR} {D:AW} {BJ:List PE} {idx:AW} {G:List (Nat × Nat)} {Fact:Nat->Oper->Nat->Prop} {o:Oper} (h:FM X μ H ops t n tm D BJ (j::idx) G Fact) (ho:ops[j]? = some o):
 ∀u∈Ew ops o,AH μ (look t u) (tm.getD u Go.undef):=by
 intro u hu;obtain⟨⟨o2,ho2,hdx⟩,_,_⟩:=h.J2;rw[ho]at ho2;cases ho2
 refine h.tmp u fun i oi hi hiD him e=>?_
 rcases MT h.stat ho hi hu e with q | q
 ·exact hdx i q him
 ·obtain⟨_,_,hc,_⟩:=h.lK i oi hi hiD him;exact hc q.1
theorem So {P:Program} {o:Oper} (h:CA P o≠2):∀c,o.op≠ .defer c:=by
 intro c e;unfold CA at h;rw[e]at h;exact h rfl
open Classical in
def only (o:Oper) (ρ:Operand->Value):Operand->Value:=fun x=>if x∈o.op.operands then ρ x else Bv
theorem Pp (o:Oper) (ρ:Operand->Value):∀x∈o.op.operands,only o ρ x=ρ x:=fun x hx=>by simp[only,hx]
theorem QU {o:Oper} {ρ ρ':Operand->Value} (h:∀x∈o.op.operands,AH μ (ρ x) (ρ' x)):∀x,AH μ (only o ρ x) (ρ' x):=by
 intro x;unfold only;split
 ·rename_i hx;exact h x hx
 ·exact .Bv _
theorem fE {ops:Array Oper} {t:Tr Value} {n j:Nat} {tm:BR} {D:AW} {BJ:List PE} {idx:AW} {G:List (Nat × Nat)} {fn:FuncId} {k':List Item} {ds':List Deferred} {kd:CallKind} {rd':Option Nat} {cs:List Frame}
 (hH:AJ base W0 μ H W) (hlaid:Bj X μ) (hD:FM X μ H ops t n tm D BJ (j::idx) G (En X H t BJ)) (hjD:j∈D) (hnl:j∉lead BJ):
 ∃μ' W' tm' G',step X.P (lone ⟨fn,tm,.inRegion ops (j::idx)::k',ds',.run,kd,rd'⟩ cs W)= .next (lone ⟨fn,tm',.inRegion ops idx::k',ds',.run,kd,rd'⟩ cs W')/\AJ base W0 μ' H W'/\
  FM X μ' H ops t n tm' D BJ idx G' (En X H t BJ)/\(∀gs,(G.map Prod.snd++gs).Nodup->FW gs μ H μ' H)/\(G'.map Prod.snd).Sublist (G.map Prod.snd):=by
 obtain⟨⟨o,ho,hdx⟩,hji,htopo⟩:=hD.J2;have hreads:=hD.reads ho;obtain⟨d,hd,_,hp⟩:=hD.lK j o ho hjD (by simp);have hwant:∀b,Cw ops o t=some b->Region.wanted o (yielded ops tm)=b:=fun b hb=>KO (fun q w u hg hu=>hreads u (KJ hg hu)) hb
 have hev:∀x∈o.op.operands,AH μ (Bt X t x) (Frame.eval ⟨fn,tm,.inRegion ops (j::idx)::k',ds',.run,kd,rd'⟩ x):=fun x hx=>OM hlaid x fun u hu=>hreads u (OY (by rw[<-hu];exact hx))
 have hfin:∀v,Frame.finish ⟨fn,tm,.inRegion ops (j::idx)::k',ds',.run,kd,rd'⟩ v=⟨fn,tm.setIfInBounds d v,.inRegion ops idx::k',ds',.run,kd,rd'⟩:=fun v=>by simp only[Frame.finish,ho,VC,hd]
 have hnd:CA X.P o≠2->∀c,o.op= .defer c->rd'=none:=fun hc c e=>absurd e (So hc c)
 rcases hp with⟨hw,hl⟩ | ⟨hw,hc,hf⟩ | ⟨hw,hc,b,hb,obj,mk,e1,e2,e3,e4,e5⟩
 ·refine⟨μ,W,_,G,?_,hH,hD.flush ho hjD hd (Ae.le_refl _) (v':=Go.undef) (by rw[hl];exact AH.undef μ) (fun i b _ hb _ hm=>⟨hb,hm⟩) (AAP _),fun gs _=>FW.refl _ _ _,AAP _⟩;rw[P5 ho (hwant false hw),hfin]
 ·rcases hf with hf | ⟨H1,hf⟩
  ·exact absurd hf hnl
  ·obtain⟨rfl,_⟩:=Rp hc hf;rw[<-I9 o (Pp o (Bt X t))]at hf;obtain⟨μ',nx,v',W',r1,r2,r3,r4,r5⟩:=aW hH (QU hev) hf;refine⟨μ',W',_,G,?_,r3,hD.flush ho hjD hd r5.le r4 (fun i b _ hb hlt hm=>⟨hb,(r5.ghost b hlt hm).1⟩) (AAP _),fun gs _=>r5.keeps gs,AAP _⟩;rw[kP ho (hwant true hw) (hnd (by omega)) r1 r2,hfin]
 ·have hio:ML X.P (only o (Bt X t)) o H=some (mk H.next,H.alloc obj):=by rw[I9 o (Pp o (Bt X t))];exact e2 H
  obtain⟨obj2,mk2,q1,q2,q3,q4,q5⟩:=Z3 hc hio;have hobj:obj2=obj:=by
   have:=congrArg (fun h:AA=>h.get H.next) q2;simp only[AA.AM,AAR]at this;cases this;rfl
  have hmk:∀b,mk2 b=mk b:=by
   intro b;have h1:=q3 ⟨.leaf,b⟩;rw[I9 o (Pp o (Bt X t)),e2]at h1;simp only[C5,Si]at h1;exact h1.1.symm
  subst hobj;obtain⟨o',T,v',r1,r2,r3,r4⟩:=q5 μ W _ (QU hev);have hle:=Ae.Cc T e4;have hsub:((G.filter fun p=>decide (p.2≠b)).map Prod.snd).Sublist (G.map Prod.snd):=(List.filter_sublist).map _;refine⟨μ.ext b T,W.alloc o',_,G.filter fun p=>decide (p.2≠b),?_,hH.settle e5 e4 r2 r3 q4.2,hD.flush ho hjD hd hle (by rw[e1,<-hmk];exact r4 b) (fun i b' hij hb' _ hm=>?_) hsub,fun gs hnd=>?_,hsub⟩
  ·rw[kP ho (hwant true hw) (hnd (by omega)) r1 (.inl rfl),hfin]
  ·have hne:b'≠b:=by rintro rfl;exact hij (dC hD.gZ hb' hb)
   exact⟨List.mem_filter.2 ⟨hb',by simp[hne]⟩,by rw[Ae.BI _ _ hne];exact hm⟩
  ·refine⟨hle,GO _,fun b' hb' _ hm=>⟨?_,rfl⟩⟩;have hne:b'≠b:=by
    rintro rfl;exact(List.nodup_append.1 hnd).2.2 b' (List.mem_map.2 ⟨_,hb,rfl⟩) b' hb' rfl
   rw[Ae.BI _ _ hne];exact hm
theorem iv {ops:Array Oper} {t:Tr Value} {n:Nat} {D:AW} {BJ:List PE} {fn:FuncId} {k':List Item} {ds':List Deferred} {kd:CallKind} {rd':Option Nat} {cs:List Frame} {gs:AW} (hnl:lead BJ=[]):
 ∀(idx:AW) (μ:Ae) (W:World) (tm:BR) (G:List (Nat × Nat)),AJ base W0 μ H W->Bj X μ->FM X μ H ops t n tm D BJ idx G (En X H t BJ)->(∀j∈idx,j∈D)->(G.map Prod.snd++gs).Nodup->
  ∃μ' W' tm' G',Steps X.P (lone ⟨fn,tm,.inRegion ops idx::k',ds',.run,kd,rd'⟩ cs W) (lone ⟨fn,tm',.inRegion ops []::k',ds',.run,kd,rd'⟩ cs W')/\AJ base W0 μ' H W'/\FM X μ' H ops t n tm' D BJ [] G' (En X H t BJ)/\FW gs μ H μ' H:=by
 intro idx;induction idx with
 | nil=>intro μ W tm G hH _ hD _ _;exact⟨μ,W,tm,G,.refl _ _,hH,hD,FW.refl _ _ _⟩
 | cons j idx ih=>
  intro μ W tm G hH hl hD hall hnd;obtain⟨μ1,W1,O1,G1,h1,h2,h3,h4,h5⟩:=fE (fn:=fn) (k':=k') (ds':=ds') (kd:=kd) (rd':=rd') (cs:=cs) hH hl hD (hall j (by simp)) (by rw[hnl];simp);have hk:=h4 gs hnd;obtain⟨μ2,W2,tm2,G2,q1,q2,q3,q4⟩:=ih μ1 W1 O1 G1 h2 (hl.mono hk.le) h3 (fun j hj=>hall j (by simp[hj])) (hnd.sublist (h5.append (AAP _)));exact⟨μ2,W2,tm2,G2,.head h1 q1,q2,q3,hk.trans q4⟩
theorem l6 {ops:Array Oper} {t:Tr Value} {n x:Nat} {o:Oper} {D:AW} {rest:List PE} {fn:FuncId} {k':List Item} {ds':List Deferred} {kd:CallKind} {rd':Option Nat} {cs:List Frame} {gs:AW} (hcls:CA X.P o=2):
 ∀(idx:AW) (μ:Ae) (W:World) (tm:BR) (G:List (Nat × Nat)),AJ base W0 μ H W->Bj X μ->FM X μ H ops t n tm D (.op x o::rest) idx G (En X H t (.op x o::rest))->x∈idx->(G.map Prod.snd++gs).Nodup->
  ∃μ' W' tm' G' idx',Steps X.P (lone ⟨fn,tm,.inRegion ops idx::k',ds',.run,kd,rd'⟩ cs W) (lone ⟨fn,tm',.inRegion ops (x::idx')::k',ds',.run,kd,rd'⟩ cs W')/\AJ base W0 μ' H W'/\
   FM X μ' H ops t n tm' D (.op x o::rest) (x::idx') G' (En X H t (.op x o::rest))/\FW gs μ H μ' H/\(G'.map Prod.snd).Sublist (G.map Prod.snd):=by
 intro idx;induction idx with
 | nil=>intro μ W tm G _ _ _ hx;cases hx
 | cons j idx ih=>
  intro μ W tm G hH hl hD hx hnd
  by_cases e:j=x
  ·subst e;exact⟨μ,W,tm,G,idx,.refl _ _,hH,hD,FW.refl _ _ _,AAP _⟩
  ·have hjD:j∈D:=by
    obtain⟨⟨oj,hoj,hdx⟩,_,_⟩:=hD.J2;obtain⟨_,_,_,hc⟩:=Hm hD.Uv;rcases(hc hcls).1 j oj hoj with h1 | h1 | h1
    ·exact h1
    ·exact absurd h1 e
    ·exfalso;refine Pg (ops:=ops.toList) (fun i=>i∉j::idx) (fun i oi hi hni=>?_) _ _ _ (fun q hq=>hdx q hq) (fun q hq=>by cases hq) x h1 hx;rw[Wt]at hi;exact(hD.V8 i oi hi hni).2
   obtain⟨μ1,W1,O1,G1,h1,h2,h3,h4,h5⟩:=fE (fn:=fn) (k':=k') (ds':=ds') (kd:=kd) (rd':=rd') (cs:=cs) hH hl hD hjD (by simp[lead]);have hk:=h4 gs hnd;have hx':x∈idx:=by
    rcases List.mem_cons.1 hx with h | h
    ·exact absurd h.symm e
    ·exact h
   obtain⟨μ2,W2,tm2,G2,idx2,q1,q2,q3,q4,q5⟩:=ih μ1 W1 O1 G1 h2 (hl.mono hk.le) h3 hx' (hnd.sublist (h5.append (AAP _)));exact⟨μ2,W2,tm2,G2,idx2,.head h1 q1,q2,q3,hk.trans q4,q5.trans h5⟩
theorem FM.suspend {ops:Array Oper} {t:Tr Value} {n x:Nat} {tm:BR} {o:Oper} {D:AW} {rest:List PE} {idx:AW} {G:List (Nat × Nat)} (hcls:CA X.P o=2) (hx:ops[x]? = some o)
 (h:FM X μ H ops t n tm D (.op x o::rest) (x::idx) G (En X H t (.op x o::rest))):FM X μ H ops t n tm D (.op x o::rest) (x::idx) G (Q2 rest):=by
 refine⟨h.stat,h.wf,h.Uv,h.J2,h.V8,h.ec,h.sz,h.tmp,fun i oi hi hiD him=>?_,h.eZ,h.gZ,h.eb⟩;refine(h.lK i oi hi hiD him).congr (fun _ _=>rfl) (fun _ _=>rfl) fun d _ _ hc0 _=>?_
 obtain⟨_,_,_,hc⟩:=Hm h.Uv;obtain⟨⟨o2,ho2,hdx⟩,_,_⟩:=h.J2;rw[hx]at ho2;cases ho2
 rcases(hc hcls).2 i oi hiD hi hc0 with h1 | h1
 ·exfalso;refine Pg (ops:=ops.toList) (fun q=>q∉x::idx) (fun q oq hq hnq=>?_) _ _ _ (fun q hq=>hdx q hq) (fun q hq=>by cases hq) i h1 him;rw[Wt]at hq;exact(h.V8 q oq hq hnq).2
 ·exact h1
end
section
variable {X:Ctx} {base:Env} {W0:World} {μ:Ae} {H:AA} {W:World}
theorem ep:∀(args:AL) (i0:Nat) (t:Tr Value) (j:Nat),(CM i0 args t).get j=if i0<=j/\j < i0+args.length then args[j - i0]? else t.get j:=by
 intro args;induction args with
 | nil=>intro i0 t j;simp[CM];omega
 | cons v r ih=>
  intro i0 t j;simp only[CM];rw[ih,Tr.AU]
  by_cases h1:j=i0
  ·subst h1;rw[JT (by omega),MB rfl,MB (by simp)];simp
  ·by_cases h2:i0+1<=j/\j < i0+1+r.length
   ·rw[MB h2,MB (by simp;omega)];obtain⟨q,rfl⟩:∃q,j=i0+1+q:=⟨j - (i0+1),by omega⟩
    have e1:i0+1+q - (i0+1)=q:=by omega
    have e2:i0+1+q - i0=q+1:=by omega
    rw[e1,e2,oA]
   ·rw[JT h2,JT h1,JT (by simp;omega)]
theorem OI {args:AL} {args':BR} {n:Nat} (ha:Am μ args args'.toList) (hn:args.length<=n):Gj μ (CM 0 args .leaf) n (args'++Array.replicate (n - args'.size) Go.undef):=by
 have hl:args.length=args'.size:=by have:=ha.length;simpa using this
 refine⟨by simp;omega,fun i=>?_⟩;unfold look;rw[ep]
 by_cases hi:i < args.length
 ·rw[MB ⟨ay _,by omega⟩];obtain⟨v',h1,h2⟩:=ha.get? (Jj hi);rw[Wt]at h1;have:(args'++Array.replicate (n - args'.size) Go.undef).getD i Go.undef=v':=by
   rw[UP,Array.getElem?_append_left (by omega),h1];rfl
  rw[this];simp only[ABV,Jj hi,rU];exact h2
 ·rw[JT (by omega),Tr.RI];have:(args'++Array.replicate (n - args'.size) Go.undef).getD i Go.undef=Go.undef:=by
   rw[UP,Array.getElem?_append_right (by omega),ABR];split<;>rfl
  rw[this];exact AH.Bv _
theorem entry_eq {P:Program} {f:FuncId} {n:Nat} {c:Code} (h:entry P f=some (n,c)):∃fn,P.funcs[f]? = some fn/\fn.body=some c/\fn.ntmps=n/\(fn.name== "runtime.NumGoroutine")=false:=by
 unfold entry at h;split at h
 ·rename_i fn hf;split at h
  ·rename_i b hb;cases hn:(fn.name== "runtime.NumGoroutine")
   ·rw[hn]at h;cases h;exact⟨fn,hf,hb,rfl,hn⟩
   ·rw[hn]at h;cases h
  ·cases h
 ·cases h
theorem JY {P:Program} {f:FuncId} {n:Nat} {c:Code} (h:entry P f=some (n,c)) (args:BR) (w:World):(callFunc f args).run P w= .ok (.enter f args) w:=by
 obtain⟨fn,h1,h2,h3,h4⟩:=entry_eq h;have h5:¬fn.name= "runtime.NumGoroutine" := by simpa using h4
 simp[callFunc,h1,h2,h5]
theorem RO {P:Program} {f:FuncId} {n:Nat} {c:Code} (h:entry P f=some (n,c)) (args:BR) (kind:CallKind):
 Frame.enter P f args kind=⟨f,args++Array.replicate (n - args.size) Go.undef,[.code c],[],.run,kind,none⟩:=by
 obtain⟨fn,h1,h2,h3,h4⟩:=entry_eq h;simp[Frame.enter,h1,h2,h3]
inductive O2:AL->AL->Prop where
 | plain (l:AL) (h:l.all flat=true):O2 l l
 | iface (te:TypeId) (pe:Value):O2 [Bv] [.iface te pe]
theorem O2.eq {l l':AL} (h:O2 l l') (hf:l.all flat=true):l'=l:=by
 cases h with
 | plain=>rfl
 | iface=>cases hf
def Eb (X:Ctx) (base:Env) (W0:World):Prop:=(X.laid.map Prod.fst).Nodup/\∀p∈X.laid,base.K p.1/\∃a t fz,W0.heap[p.1]? = some (.cells a t fz)/\O2 p.2 a.toList
def ET (X:Ctx) (base:Env) (W0:World):Prop:=Eb X base W0/\∀f F,X.IN f=some F->(∃n c,entry X.P f=some (n,c))/\∀μ H W (args:AL) (args':BR) v H',AJ base W0 μ H W->Bj X μ->Am μ args args'.toList->F args H=some (v,H')->
 Calls X.P f args' W fun e W'=>∃v' μ',e= .returned v'/\AJ base W0 μ' H' W'/\AH μ' v v'/\Ap μ H μ' H'
theorem KG:∀(l l':AL),l.all flat=true->Am μ l l'->l'=l
 | [],_,_,h=>by cases h;rfl
 | a::l,_,hf,h=>by
  simp only[lf,Dg]at hf;cases h with
  | cons h1 h2=>rw[LN hf.1 h1,KG l _ hf.2 h2]
theorem Q0 (hok:ET X base W0) {g gs:AW} {fr:Aj} {cs:List Aj} {fr':Frame} {cs' cs0:List Frame} {f:FuncId} {args:AL} {args':BR} {c':BT} {m:Machine}
 (hH:AJ base W0 μ H W) (hlaid:Bj X μ) (hfr:Hh X μ H g fr fr') (hcs:Dv X μ H gs cs cs') (hnd:(g++gs).Nodup) (ha:Am μ args args'.toList)
 (hm:∀n c,entry X.P f=some (n,c)->Steps X.P m (lone (Frame.enter X.P f args' .normal) (fr'::(cs'++cs0)) W))
 (hmv:∀v,(callFunc f args').run X.P W= .ok (.value v) W->Steps X.P m (lone (fr'.finish v) (cs'++cs0) W)) (hi:IB X f args .normal fr cs H=some c'):
 C4 X base W0 cs0 c' m:=by
 unfold IB at hi;cases hat:CP X f args .normal H with
 | none=>
  simp only[hat]at hi;split at hi
  ·rename_i n c he;cases hle:Nat.ble args.length n
   ·simp[hle]at hi
   ·simp only[hle,C8,C5]at hi;subst hi;refine⟨μ,_,fr'::cs',W,hm n c he,hH,hlaid,[],g++gs,?_,.cons hfr hcs,hnd⟩;rw[RO he];exact .plain f _ n _ _ _ [] [] false .normal none none (OI ha (BE hle)) (.cons (.code c) .nil) .nil .none
  ·cases hf:args.all flat
   ·simp only[hf,EB]at hi;cases hi
   ·simp only[hf,C8]at hi;split at hi
    ·rename_i v hp;cases hfv:flat v
     ·simp only[hfv,EB]at hi;cases hi
     ·simp only[hfv,C8]at hi;split at hi
      ·rename_i fr1 hfin;cases hi
       have he:args'=⟨args⟩:=by rw[<-yi];exact KG args _ hf ha
       have hrun:(callFunc f args').run X.P W= .ok (.value v) W:=by rw[he];exact Of hp W
       exact⟨μ,_,cs',W,hmv v hrun,hH,hlaid,g,gs,Dl hfr (D5 hfv) hfin,hcs,hnd⟩
      ·cases hi
    ·cases hi
 | some p=>
  obtain⟨v,H'⟩:=p;simp only[hat]at hi;obtain⟨F,hin,hF⟩:∃F,X.IN f=some F/\F args H=some (v,H'):=by
   unfold CP at hat
   split at hat
   ·rename_i F e;exact⟨F,e,hat⟩
   ·cases hat
  ·split at hi
   ·rename_i fr1 hfin;cases hi
    obtain⟨⟨n,c,he⟩,hc⟩:=hok.2 f F hin;obtain⟨e,w',fx,⟨v',μ',rfl,h1,h2,h3⟩,hcomes,hfn,hleave⟩:=hc μ H W args args' v H' hH hlaid ha hF (fr'::(cs'++cs0));exact⟨μ',fr'.finish v',cs',w',(hm n c he).trans (Steps.trans hcomes (.one (step_leave_returned hleave))),h1,hlaid.mono h3.le,g,gs,Dl (hfr.mono (h3.keeps g)) h2 hfin,hcs.mono (h3.keeps gs),hnd⟩
   ·cases hi
theorem SO:∀(ps:List Tmp) (vs vs':AL) (t:Tr Value) (n:Nat) (a:BR),Gj μ t n a->Am μ vs vs'->ps.all (fun p=>Nat.blt p n)=true->
 Gj μ (Hn ps vs t) n ((ps.zip vs').foldl (fun(tm:BR) (x:Tmp × Value)=>tm.setIfInBounds x.1 x.2) a):=by
 intro ps;induction ps with
 | nil=>intro vs vs' t n a ht _ _;simpa [Hn] using ht
 | cons p ps ih=>
  intro vs vs' t n a ht hv hp;simp only[lf,Dg]at hp;cases hv with
  | nil=>simpa [Hn] using ht
  | cons h1 h2=>
   simp only[Hn,List.zip_cons_cons,ABD];exact ih _ _ _ n _ (ht.put (BE hp.1) h1) h2 hp.2
theorem QZ {g gs:AW} {fr:Aj} {cs:List Aj} {fr':Frame} {cs' cs0:List Frame} {l:Nat} {T:Bc} {args:AL} {args':BR} {c':BT} {m:Machine}
 (hH:AJ base W0 μ H W) (hlaid:Bj X μ) (hfr:Hh X μ H g fr fr') (hcs:Dv X μ H gs cs cs') (hnd:(g++gs).Nodup) (ha:Am μ args args'.toList) (hl:μ l=some T)
 (hm:∀f t a b,(Instr.yield T.c args').run X.P W= .ok (.round T.c f t a b) W->Steps X.P m (lone (Frame.round T.c f t a b .normal) (fr'::(cs'++cs0)) W)) (hi:Xh l args fr cs H=some c'):
 C4 X base W0 cs0 c' m:=by
 unfold Xh at hi;split at hi
 ·rename_i r hget;cases hc:(Nat.beq args.length r.params.size&&r.params.toList.all (fun p=>Nat.blt p r.n))
  ·simp only[hc,EB]at hi;cases hi
  ·simp only[hc,C8,C5]at hi;subst hi;simp only[Dg]at hc;have hlen:=DN hc.1;obtain⟨o',ho',hor⟩:=hH.obj l _ hget T hl;cases hor with
   | loop _ a R ht hd=>
    have hsz:args'.size=r.params.size:=by
     have:args.length=args'.size:=by simpa using ha.length
     omega
    have hrun:(Instr.yield T.c args').run X.P W= .ok (.round T.c r.fn ((r.params.zip args').foldl (fun tmps (t,a)=>tmps.setIfInBounds t a) a) r.assign r.body) W:=by
     simp[Instr.yield,G0 (P:=X.P) ho',hsz]
    refine⟨μ,_,fr'::cs',W,hm _ _ _ _ hrun,hH,hlaid,[],g++gs,?_,.cons hfr hcs,hnd⟩;have:=SO r.params.toList args args'.toList r.tmps r.n a ht ha hc.2;refine .plain r.fn _ r.n _ _ _ [] [] false .normal (some l) (some T.c) ?_ (.cons (.code _) (.cons .beginRound (.cons (.code _) .nil))) .nil (.some l T hl);rw[<-Array.foldl_toList,Array.toList_zip];exact this
 ·cases hi
end
section
variable {X:Ctx} {base:Env} {W0:World} {μ:Ae} {H:AA} {W:World}
theorem Yv {id:Nat}:∀{k:List B9} {k':List Item},EU μ k k'->(∀q,Jr id k=some q->∃q',exitTo id k'=some q'/\EU μ q q')/\(Jr id k=none->exitTo id k'=none):=by
 intro k k' h;induction h with
 | nil=>exact⟨fun q e=>by simp[Jr]at e,fun _=>rfl⟩
 | cons h t ih=>
  cases h with
  | inBlock id'=>
   simp only[Jr,exitTo];cases hb:Nat.beq id' id
   ·have hne:(id'==id)=false:=by
     cases hq:(id'==id)
     ·rfl
     ·rw[eq_of_beq hq,VX]at hb;cases hb
    simp only[hne,EB];exact ih
   ·have:=DN hb;subst this;simp only[C8,AAS,AAR];exact⟨fun q e=>by cases e;exact⟨_,rfl,t⟩,fun e=>by cases e⟩
  | code c=>exact ih
  | inLoop c=>exact ih
  | inScope c=>exact ih
  | Kr ops l idx h=>exact ih
  | inRangeFunc l T h=>exact ih
  | endRangeFunc l T h=>exact ih
  | beginRound=>exact ih
theorem Wk {t:Tr Value} {f:Frame} (args:Array Operand) (h:∀x∈args,AH μ (Bt X t x) (f.eval x)):Am μ (args.toList.map (Bt X t)) (args.map f.eval).toList:=by
 rw[re];exact Am.map _ _ _ fun x hx=>h x (by simpa using hx)
theorem U7 (hok:ET X base W0) {g gs:AW} {fn:FuncId} {t:Tr Value} {n:Nat} {tm:BR} {ops:Array Oper} {o:Oper} {i:Nat} {idx:AW} {todo:List B9} {k':List Item} {ds ds':List Deferred} {kd:CallKind} {rd rd':Option Nat}
 {cs:List Aj} {cs' cs0:List Frame} {c':BT} (hH:AJ base W0 μ H W) (hlaid:Bj X μ) (ho:ops[i]? = some o) (hds:CT μ ds ds') (hrd:HW μ rd rd') (hcs:Dv X μ H gs cs cs') (hnd:(g++gs).Nodup)
 (hfr:∀ds1 ds1',CT μ ds1 ds1'->Hh X μ H g ⟨fn,t,n,todo,ds1,false,kd,rd⟩ ⟨fn,tm,.inRegion ops (i::idx)::k',ds1',.run,kd,rd'⟩)
 (hev:∀x∈o.op.operands,AH μ (Bt X t x) (Frame.eval ⟨fn,tm,.inRegion ops (i::idx)::k',ds',.run,kd,rd'⟩ x))
 (hw:Region.wanted o (yielded ops tm)=true) (hi:LZ X o ⟨fn,t,n,todo,ds,false,kd,rd⟩ cs H=some c'):
 C4 X base W0 cs0 c' (lone ⟨fn,tm,.inRegion ops (i::idx)::k',ds',.run,kd,rd'⟩ (cs'++cs0) W):=by
 have hplain:(∀c,o.op= .defer c->rd'=none)->(match ML X.P (Bt X t) o H with
  | some (v,H')=>match CG ⟨fn,t,n,todo,ds,false,kd,rd⟩ v with
   | some fr'=>some (⟨fr',cs,H'⟩:BT)
   | none=>none
  | none=>none)=some c'->C4 X base W0 cs0 c' (lone ⟨fn,tm,.inRegion ops (i::idx)::k',ds',.run,kd,rd'⟩ (cs'++cs0) W):=by
  intro hnd1 hm;split at hm
  ·rename_i v H' hio;split at hm
   ·rename_i fr1 hfin;cases hm
    rw[<-I9 o (Pp o (Bt X t))]at hio;obtain⟨μ',nx,v',W',r1,r2,r3,r4,r5⟩:=aW hH (QU hev) hio;exact⟨μ',_,cs',W',.one (kP ho hw hnd1 r1 r2),r3,hlaid.mono r5.le,g,gs,Dl ((hfr ds ds' hds).mono (r5.keeps g)) r4 hfin,hcs.mono (r5.keeps gs),hnd⟩
   ·cases hm
  ·cases hm
 unfold LZ at hi;split at hi
 ·rename_i c hc;have hnd1:∀c,o.op= .defer c->rd'=none:=fun c e=>by rw[hc]at e;cases e
  split at hi
  ·rename_i b hcal;cases hb:isRec b
   ·simp only[hb,EB]at hi;exact hplain hnd1 hi
   ·simp only[hb,C8]at hi;have hbe:b= .recover:=by cases b<;>first | rfl | cases hb
    have hex:(execOp (Frame.eval ⟨fn,tm,.inRegion ops (i::idx)::k',ds',.run,kd,rd'⟩) o).run X.P W= .ok .recover W:=by
     simp only[execOp,hc,resolve,hcal,hbe];rfl
    unfold uL at hi;simp only at hi;cases hrd with
    | some l T hm=>cases hi
    | none=>
     simp only at hi;have go:∀fr1,CG ⟨fn,t,n,todo,ds,false,kd,none⟩ .nilIface=some fr1->tryRecover ⟨fn,tm,.inRegion ops (i::idx)::k',ds',.run,kd,none⟩ (cs'++cs0)=none->c'=⟨fr1,cs,H⟩->
      C4 X base W0 cs0 c' (lone ⟨fn,tm,.inRegion ops (i::idx)::k',ds',.run,kd,none⟩ (cs'++cs0) W):=by
      rintro fr1 hfin htr rfl;exact⟨μ,_,cs',W,.one (dQ ho hw hnd1 hex rfl htr),hH,hlaid,g,gs,Dl (hfr ds ds' hds) .nilIface hfin,hcs,hnd⟩
     cases kd with
     | normal=>
      simp only at hi;split at hi
      ·rename_i fr1 hfin;exact go fr1 hfin (by simp[tryRecover]) (by cases hi;rfl)
      ·cases hi
     | deferred=>
      simp only at hi;cases hcs with
      | nil=>cases hi
      | cons hf hft=>
       simp only at hi;split at hi
       ·rename_i fr1 hfin;refine go fr1 hfin ?_ (by cases hi;rfl);cases hf with
        | plain _ _ _ _ _ _ _ _ r _ _ _ _ _ _ _=>cases r<;>simp[tryRecover,UI]
        | KA=>simp[tryRecover]
       ·cases hi
     | _=>cases hi
  ·rename_i f hcal;have hopn:o.op.operands=#[f]++c.args:=by rw[hc];simp only[Op.operands,Call.operands,hcal]
   have hargs:=Wk (f:=⟨fn,tm,.inRegion ops (i::idx)::k',ds',.run,kd,rd'⟩) c.args fun x hx=>hev x (by rw[hopn];simp[hx])
   have hf:=hev f (by rw[hopn];simp);unfold Ni at hi;split at hi
   ·rename_i g1 first captured hfe;simp only at hfe;rw[hfe]at hf;obtain⟨fn',xs',ys',hfe',hfn,hx1,hy1⟩:=AH.CL.1 hf;cases hfn
    have hex:∀w,(execOp (Frame.eval ⟨fn,tm,.inRegion ops (i::idx)::k',ds',.run,kd,rd'⟩) o).run X.P w=(callFunc g1 (xs'++c.args.map (Frame.eval ⟨fn,tm,.inRegion ops (i::idx)::k',ds',.run,kd,rd'⟩)++ys')).run X.P w:=by
     intro w;simp only[execOp,hc,resolve,hcal,hfe',Deferred.ofValue,Sem.run_bind,Sem.run_pure,Result.andThen_ok,invoke]
    refine Q0 hok (args':=xs'++c.args.map (Frame.eval ⟨fn,tm,.inRegion ops (i::idx)::k',ds',.run,kd,rd'⟩)++ys') hH hlaid (hfr ds ds' hds) hcs hnd ?_ (fun nn cc he=> .one (rT ho hw hnd1 ?_)) (fun v hv=> .one (kP ho hw hnd1 ?_ (.inl rfl))) hi
    ·simp only[pJ];exact(hx1.append hargs).append hy1
    ·rw[hex];exact JY he _ W
    ·rw[hex];exact hv
   ·rename_i l first captured hfe;simp only at hfe;rw[hfe]at hf;obtain⟨fn',xs',ys',hfe',hfn,hx1,hy1⟩:=AH.CL.1 hf;cases hfn with
    | yield _ T hT=>
     refine QZ (args':=xs'++c.args.map (Frame.eval ⟨fn,tm,.inRegion ops (i::idx)::k',ds',.run,kd,rd'⟩)) hH hlaid (hfr ds ds' hds) hcs hnd ?_ hT (fun f2 t2 a2 b2 hy=> .one (oQ ho hw hnd1 ?_)) hi
     ·simp only[pJ];exact hx1.append hargs
     ·simp only[execOp,hc,resolve,hcal,hfe',Deferred.ofValue,Sem.run_bind,Sem.run_pure,Result.andThen_ok,invoke];exact hy
   ·cases hi
  ·cases hi
 ·rename_i c hc;split at hi
  ·rename_i f hrn hcal;simp only at hrn;subst hrn;cases hrd
   have hopn:o.op.operands=#[f]++c.args:=by rw[hc];simp only[Op.operands,Call.operands,hcal]
   split at hi
   ·rename_i fn1 first captured hfe;split at hi
    ·rename_i fr1 hfin;cases hi
     have hargs:=Wk (f:=⟨fn,tm,.inRegion ops (i::idx)::k',ds',.run,kd,none⟩) c.args fun x hx=>hev x (by rw[hopn];simp[hx])
     have hf:=hev f (by rw[hopn];simp);simp only at hfe;rw[hfe]at hf;obtain⟨fn',xs',ys',hfe',hfn,hx1,hy1⟩:=AH.CL.1 hf;refine⟨μ,_,cs',W,.one (nP (d:={ target:= .fn fn' ys',args:=xs'++c.args.map (Frame.eval ⟨fn,tm,.inRegion ops (i::idx)::k',ds',.run,kd,none⟩) }) ho hw ?_),hH,hlaid,g,gs,?_,hcs,hnd⟩
     ·simp only[execOp,hc,resolve,hcal,hfe',Deferred.ofValue,Sem.run_bind,Sem.run_pure,Result.andThen_ok]
     ·refine Dl (hfr _ _ (.cons ⟨.fn fn1 fn' captured ys' hfn hy1,?_⟩ hds)) (AH.undef μ) hfin;simp only[pJ];exact hx1.append hargs
    ·cases hi
   ·cases hi
  ·cases hi
 ·rename_i hnc hnd1;exact hplain (fun c e=>absurd e (hnd1 c)) hi
theorem O3 {gs:AW} {c':BT} {cs:List Aj} {cs' cs0:List Frame} {kd:CallKind} {v v':Value} {m:Machine} (hH:AJ base W0 μ H W) (hlaid:Bj X μ) (hcs:Dv X μ H gs cs cs') (hnd:gs.Nodup) (hv:AH μ v v')
 (hn:∀c rest,cs'=c::rest->kd= .normal->Steps X.P m (lone (c.finish v') (rest++cs0) W)) (hdf:∀c rest,cs'=c::rest->kd= .deferred->c.mode= .returning->Steps X.P m (lone c (rest++cs0) W)) (hi:IS kd v cs H=some c'):
 C4 X base W0 cs0 c' m:=by
 unfold IS at hi;split at hi
 ·cases hi
 ·rename_i c rest;cases hcs with
  | @cons g gs c c1' rest rest' h1 h2=>
   split at hi
   ·split at hi
    ·rename_i c1 hfin;cases hi
     exact⟨μ,_,_,W,hn _ _ rfl rfl,hH,hlaid,g,gs,Dl h1 hv hfin,h2,hnd⟩
    ·cases hi
   ·cases h1 with
    | plain fn t n tm todo todo' ds ds' r kd2 rd rd' ht hi2 hd hr=>
     cases r
     ·simp at hi
     ·simp only[C8,C5]at hi;subst hi;exact⟨μ,_,_,W,hdf _ _ rfl rfl rfl,hH,hlaid,[],gs,.plain fn t n tm todo todo' ds ds' true kd2 rd rd' ht hi2 hd hr,h2,hnd⟩
    | KA fn t n tm ops x o rest idx D G k k' ds ds' kd rd rd' ho hD hkk hd hr=>simp at hi
   ·cases hi
def iU (tm:BR):ResultVar->Sem Value
 | .tmp t=>pure (tm.getD t Go.undef)
 | .cell a t=>do loadVar t (←asAddr (tm.getD a Go.undef))
theorem Yh (hH:AJ base W0 μ H W) {t:Tr Value} {n:Nat} {tm:BR} (ht:Gj μ t n tm):∀(rs:List ResultVar) (vs:AL),Nx X t H rs=some vs->
 ∃vs',(rs.mapM (iU tm)).run X.P W= .ok vs' W/\Am μ vs vs':=by
 intro rs;induction rs with
 | nil=>intro vs h;simp[Nx]at h;subst h;exact⟨[],by simp,.nil⟩
 | cons r rs ih=>
  intro vs h;simp only[Nx]at h;split at h
  ·rename_i v l hv hl;cases h
   obtain⟨l',r1,r2⟩:=ih l hl;have key:∃v',(iU tm r).run X.P W= .ok v' W/\AH μ v v':=by
    cases r with
    | tmp i=>
     simp only[valOf,C5]at hv;subst hv;exact⟨_,rfl,ht.2 i⟩
    | cell a ty=>
     simp only[valOf]at hv;have ha:=ht.2 a;generalize look t a=p at ha hv;have hres:iU tm (.cell a ty)=(do loadVar ty (←asAddr (tm.getD a Go.undef))):=rfl;rw[hres];generalize tm.getD a Go.undef=q at ha;obtain⟨v',q1,q2⟩:=Q7 (P:=X.P) hH ha hv;refine⟨v',?_,q2⟩;cases ha with
     | ptr b o T hm=>simpa [Instr.loadAt,Instr.sureAddr,asAddr] using q1
     | _=>simp[Mf,Bv]at hv
   obtain⟨v',k1,k2⟩:=key;exact⟨v'::l',by simp only[AAi,Sem.run_bind,k1,Result.andThen_ok,r1,Sem.run_pure],.cons k2 r2⟩
  ·cases h
theorem PC (hH:AJ base W0 μ H W) {f:FuncId} {t:Tr Value} {n:Nat} {tm:BR} (ht:Gj μ t n tm) {v:Value} (h:Kl X f t H=some v):
 ∃fn v',X.P.funcs[f]? = some fn/\(results fn tm).run X.P W= .ok v' W/\AH μ v v':=by
 unfold Kl at h;split at h
 ·rename_i fn hfn;refine⟨fn,?_⟩;have key:∀vs,Nx X t H fn.results.toList=some vs->∃vs',(results fn tm).run X.P W= .ok (if hx:vs'.toArray.size=1 then vs'.toArray[0]else .tuple vs'.toArray) W/\Am μ vs vs':=by
   intro vs hvs;obtain⟨vs',r1,r2⟩:=Yh hH ht _ _ hvs;refine⟨vs',?_,r2⟩;unfold results;have hm:(fn.results.mapM (iU tm)).run X.P W= .ok vs'.toArray W:=by
    rw[Array.mapM_eq_mapM_toList];simp only[Sem.run_map,r1,Result.andThen_ok]
   have he:results fn tm=(do let vs ←fn.results.mapM (iU tm);pure (if h:vs.size=1 then vs[0]else .tuple vs)):=by
    unfold results
    congr 1
   unfold results at he;rw[he];simp only[Sem.run_bind,hm,Result.andThen_ok,Sem.run_pure]
  split at h
  ·rename_i v0 hvs;cases h
   obtain⟨vs',r1,r2⟩:=key _ hvs;cases r2 with
   | cons h1 h2=>
    cases h2
    exact⟨_,hfn,r1,by simpa using h1⟩
  ·rename_i l hne hvs;cases h
   obtain⟨vs',r1,r2⟩:=key _ hvs;have hlen:=r2.length;refine⟨_,hfn,r1,?_⟩;have hne1:¬vs'.toArray.size=1:=by
    intro e;rw[AAt,<-hlen]at e;obtain⟨a,ha⟩:=List.length_eq_one_iff.1 e;exact hne a ha
   rw[dif_neg hne1];exact AH.CE.2 ⟨_,rfl,by simpa using r2⟩
  ·cases h
 ·cases h
end
section
variable {X:Ctx} {base:Env} {W0:World} {μ:Ae} {H:AA} {W:World}
theorem Qt (hH:AJ base W0 μ H W) {l:Nat} {T:Bc} {q:il} (hget:H.get l=some (.loop q)) (hT:μ l=some T):
 ∃r:Loop,W.heap[T.c]? = some (.loop r)/\r.state=q.state/\r.pending=q.pending/\∀st pe,AJ base W0 μ (H.put l (.loop { q with state:=st,pending:=pe })) { W with heap:=W.heap.setIfInBounds T.c (.loop { r with state:=st,pending:=pe }) }/\
  Ap μ H μ (H.put l (.loop { q with state:=st,pending:=pe })):=by
 obtain⟨o',ho',hor⟩:=hH.obj l _ hget T hT;cases hor with
 | loop _ a R ht hd=>
  refine⟨_,ho',rfl,rfl,fun st pe=>?_⟩;exact hH.setObj (o1:= .loop { q with state:=st,pending:=pe }) hget rfl hT (.loop T { q with state:=st,pending:=pe } a R ht hd)
theorem MW {gs:AW} {fn:FuncId} {t:Tr Value} {n:Nat} {tm:BR} {todo:List B9} {todo':List Item} {ds ds':List Deferred} {kd:CallKind} {rd rd':Option Nat} {cs:List Aj} {cs' cs0:List Frame} {c':BT} {j:Option Code}
 (hH:AJ base W0 μ H W) (hlaid:Bj X μ) (ht:Gj μ t n tm) (hi:EU μ todo todo') (hd:CT μ ds ds') (hrd:HW μ rd rd') (hcs:Dv X μ H gs cs cs') (hnd:gs.Nodup)
 (hj:(todo'=[]/\j=none)∨(∃k,todo'= .code .ret::k/\j=some .ret)∨∃id k,todo'= .code (.exit id)::k/\exitTo id k=none/\j=some (.exit id))
 (h:P2 j ⟨fn,t,n,todo,ds,false,kd,rd⟩ cs H=some c'):C4 X base W0 cs0 c' (lone ⟨fn,tm,todo',ds',.run,kd,rd'⟩ (cs'++cs0) W):=by
 unfold P2 at h;simp only at h;cases hrd with
 | none=>
  simp only at h;have fin:∀(hh:todo'=[]∨∃k,todo'= .code .ret::k),c'=⟨⟨fn,t,n,todo,ds,true,kd,none⟩,cs,H⟩->C4 X base W0 cs0 c' (lone ⟨fn,tm,todo',ds',.run,kd,none⟩ (cs'++cs0) W):=by
   rintro hh rfl;exact⟨μ,_,cs',W,.one (mD todo' hh),hH,hlaid,[],gs,.plain fn t n tm todo todo' ds ds' true kd none none ht hi hd .none,hcs,hnd⟩
  rcases hj with⟨h1,rfl⟩ | ⟨k,h1,rfl⟩ | ⟨id,k,h1,h2,rfl⟩
  ·simp only[C5]at h;exact fin (.inl h1) h.symm
  ·simp only[C5]at h;exact fin (.inr ⟨k,h1⟩) h.symm
  ·simp at h
 | some l T hT=>
  simp only at h;split at h
  ·rename_i q hget;obtain⟨r,hr,hst,hpe,hput⟩:=Qt hH hget hT;have main:∀st,(st=if j.isNone then LoopState.ready else .done)->IS kd (.bool j.isNone) cs (H.put l (.loop { q with state:=st,pending:=j }))=some c'->
    C4 X base W0 cs0 c' (lone ⟨fn,tm,todo',ds',.run,kd,some T.c⟩ (cs'++cs0) W):=by
    intro st hst' h;obtain⟨p1,p2⟩:=hput st j;refine O3 p1 hlaid (hcs.mono (p2.keeps gs)) hnd (.bool j.isNone) (fun c rest hc hk=>?_) (fun c rest hc hk hmode=>?_) h
    ·subst hk;subst hc;subst hst'
     exact .one (ZQ hr hj)
    ·subst hk;subst hc;subst hst'
     refine .one ?_;have hre:=Mm (P:=X.P) (j:=j) hr;obtain⟨a1,a2,a3,a4,a5,a6,a7⟩:=c;simp only at hmode;subst hmode;rcases hj with⟨rfl,rfl⟩ | ⟨k,rfl,rfl⟩ | ⟨id,k,rfl,he,rfl⟩
     ·exact step_lone_go (by simp[stepG,stepG.exec,hre,doReturn])
     ·exact step_lone_go (by simp[stepG,stepG.exec,hre,doReturn])
     ·exact step_lone_go (by simp[stepG,stepG.exec,hre,doReturn,he])
   cases j with
   | none=>exact main .ready rfl h
   | some j=>exact main .done rfl h
  ·cases h
theorem VW {gs:AW} {fn:FuncId} {t:Tr Value} {n:Nat} {tm:BR} {todo:List B9} {todo':List Item} {ds ds':List Deferred} {kd:CallKind} {rd rd':Option Nat} {cs:List Aj} {cs' cs0:List Frame} {c':BT}
 (hH:AJ base W0 μ H W) (hlaid:Bj X μ) (ht:Gj μ t n tm) (hi:EU μ todo todo') (hd:CT μ ds ds') (hrd:HW μ rd rd') (hcs:Dv X μ H gs cs cs') (hnd:gs.Nodup)
 (h:NF X ⟨fn,t,n,todo,ds,true,kd,rd⟩ cs H=some c'):C4 X base W0 cs0 c' (lone ⟨fn,tm,todo',ds',.returning,kd,rd'⟩ (cs'++cs0) W):=by
 unfold NF at h;simp only at h;cases hd with
 | nil=>
  simp only at h;split at h
  ·rename_i v hres;obtain⟨f,v',hf,hrun,hv⟩:=PC hH ht hres;refine O3 hH hlaid hcs hnd hv (fun c rest hc hk=>?_) (fun c rest hc hk hmode=>?_) h
   ·subst hk;subst hc;exact .one (gQ hf hrun)
   ·subst hk;subst hc
    exact .one (eI hf hrun (.inl hmode))
  ·cases h
 | @cons d d' l l' hdr hdt=>
  obtain⟨w6,args⟩:=d;obtain⟨tgt',args'⟩:=d';obtain⟨htg,hargs⟩:=hdr;simp only at h htg hargs;split at h
  ·rename_i b;cases htg with
   | collected _ T hT=>
    split at h
    ·rename_i q hget;cases h
     obtain⟨o',ho',hor⟩:=hH.obj b _ hget T hT;cases hor with
     | deferred _ q' hq=>
      obtain⟨g1,g2⟩:=hH.setObj (o1:= .deferred none) (o1':= .deferred none) hget rfl hT (.EW T);have hrun:(Instr.takeDeferred T.c).run X.P W= .ok q' { W with heap:=W.heap.setIfInBounds T.c (.deferred none) }:=by
       simp[Instr.takeDeferred,KF (P:=X.P) ho' (by intro c t f;simp),HG (P:=X.P) ho' (by intro c t f;simp)]
      exact⟨μ,_,cs',_,.one (Pw hrun),g1,hlaid,[],gs,.plain fn t n tm todo todo' _ _ true kd rd rd' ht hi (hq.append hdt) hrd,hcs.mono (g2.keeps gs),hnd⟩
    ·cases h
  ·rename_i g captured;cases htg with
   | fn _ fn' _ ys' hfn hy=>
    cases hfn
    unfold IB at h;have hat:CP X g (args.toList++captured.toList) .deferred H=none:=by unfold CP;split<;>rfl
    simp only[hat]at h
    ·split at h
     ·rename_i nn cc he;cases hle:Nat.ble (args.toList++captured.toList).length nn
      ·simp only[hle,EB]at h;cases h
      ·simp only[hle,C8,C5]at h;subst h;have hal:Am μ (args.toList++captured.toList) (args'++ys').toList:=by simp only[pJ];exact hargs.append hy
       refine⟨μ,_,⟨fn,tm,todo',l',.returning,kd,rd'⟩::cs',W,.one (ZR (d:=⟨.fn (.func g) ys',args'⟩) (f:=g) (args:=args'++ys') (by intro b e;cases e) ?_),hH,hlaid,[],[]++gs,?_,.cons ?_ hcs,hnd⟩
       ·simp only[invoke];exact JY he _ W
       ·rw[RO he];exact .plain g _ nn _ _ _ [] [] false .deferred none none (OI hal (BE hle)) (.cons (.code cc) .nil) .nil .none
       ·exact .plain fn t n tm todo todo' l l' true kd rd rd' ht hi hdt hrd
     ·cases h
  ·cases h
end
section
variable {X:Ctx} {base:Env} {W0:World} {μ:Ae} {H:AA} {W:World}
def db (listed:Array Bool) (i:Nat):Prop:=listed.getD i true=false
theorem Ra {ops:Array Oper} {listed:Array Bool} {i:Nat} (h:(!listed.getD i true&&((ops[i]?).map (·.after.all fun e=> !Region.binds .any e||listed.getD e.on false)).getD false)=true):
 db listed i/\∃o,ops[i]? = some o/\∀d∈Fx o,listed.getD d false=true:=by
 simp only[Dg,sd]at h;refine⟨h.1,?_⟩;cases ho:ops[i]? with
 | none=>simp[ho]at h
 | some o=>
  refine⟨o,rfl,fun d hd=>?_⟩;have h2:=h.2;simp only[ho,dH,rU]at h2;unfold Fx at hd;obtain⟨e,he,rfl⟩:=List.mem_map.1 hd;obtain⟨he1,he2⟩:=List.mem_filter.1 he;have:=(Array.all_eq_true_iff_forall_mem.1 h2) e (by simpa using he1);rw[he2]at this;simpa using this
theorem kQ {ops:Array Oper}:∀(fuel t:Nat) (listed:Array Bool),listed.size=ops.size->Wa ops (Region.linearise.go .any ops fuel t listed [])/\∀i∈Region.linearise.go .any ops fuel t listed [],db listed i:=by
 intro fuel;induction fuel with
 | zero=>intro t listed _;simp[Region.linearise.go,Wa]
 | succ fuel ih=>
  intro t listed hsz;unfold Region.linearise.go;simp only;split
  ·rename_i i hi;have hmem:=cA hi;obtain⟨hlt,hready⟩:=List.mem_filter.1 hmem;obtain⟨hu,o,ho,hd⟩:=Ra hready;rw[linearise_go_acc];have hi0:i < ops.size:=by simpa using hlt
   obtain⟨h1,h2⟩:=ih (t / _) (listed.setIfInBounds i true) (by simpa using hsz);simp only[List.reverse_cons,List.reverse_nil,ic,AAr];have hni:∀j∈Region.linearise.go .any ops fuel (t / (List.filter (fun i=> !listed.getD i true&&(Option.map (fun x=>x.after.all fun e=> !Region.binds Region.Mode.any e||listed.getD e.on false) ops[i]?).getD false) (List.range ops.size)).length) (listed.setIfInBounds i true) [],j≠i/\db listed j:=by
    intro j hj;have:=h2 j hj;unfold db at this ⊢;refine⟨?_,?_⟩
    ·rintro rfl;rw[UP,lV]at this;simp[hsz,hi0]at this
    ·by_cases e:j=i
     ·subst e;rw[UP,lV]at this;simp[hsz,hi0]at this
     ·rwa [getD_set_ne _ (gi e)]at this
   refine⟨⟨⟨o,ho,fun d hdd hm=>?_⟩,fun hm=>(hni i hm).1 rfl,h1⟩,fun j hj=>?_⟩
   ·have hl:=hd d hdd;have hun:db listed d:=by
     rcases List.mem_cons.1 hm with rfl | hm
     ·exact hu
     ·exact(hni d hm).2
    unfold db at hun;have hdlt:d < listed.size:=by
     rcases U1 d listed.size with q | q
     ·exact q
     ·rw[UP,ud q]at hl;simp at hl
    rw[UP,dm hdlt]at hl hun;simp at hl hun;rw[hl]at hun;cases hun
   ·rcases List.mem_cons.1 hj with rfl | hj
    ·exact hu
    ·exact(hni j hj).2
  ·simp[Wa]
theorem Yd {P:Program} {ops:Array Oper} {listed:Array Bool} (hsz:listed.size=ops.size):∀(BJ:List PE) (D:AW),Iw ops BJ->EY P ops D BJ=true->(∀d∈D,listed.getD d false=true)->(∃i,i < ops.size/\db listed i)->
 ∃i,i < ops.size/\(!listed.getD i true&&((ops[i]?).map (·.after.all fun e=> !Region.binds .any e||listed.getD e.on false)).getD false)=true:=by
 intro BJ;induction BJ with
 | nil=>
  intro D _ hok hD ⟨i,hi,hu⟩;unfold EY at hok;have h1:=Ef.1 (List.all_eq_true.1 hok i (by simpa using hi));have h2:=hD i h1;unfold db at hu;rw[UP,dm (by omega)]at h2 hu;simp at h2 hu;rw[h2]at hu;cases hu
 | cons e BJ ih=>
  intro D hwf hok hD hex;have hwf':Iw ops BJ:=fun e he=>hwf e (by simp[he])
  cases e with
  | SQ j o=>
   unfold EY at hok;simp only[Dg]at hok;exact ih D hwf' hok.2 hD hex
  | op i o=>
   obtain⟨h1,h2,h3,_⟩:=Hm hok;have hio:ops[i]? = some o:=hwf (.op i o) (by simp);have hi:i < ops.size:=(Array.getElem?_eq_some_iff.1 hio).1;cases hl:listed.getD i true with
   | true=>
    refine ih (i::D) hwf' h3 ?_ hex;intro d hd;rcases List.mem_cons.1 hd with rfl | hd
    ·rw[UP,dm (by omega)]at hl ⊢;simpa using hl
    ·exact hD d hd
   | false=>
    refine⟨i,hi,?_⟩;simp only[hl,AA1,AAM,hio,dH,rU];rw[Array.all_eq_true_iff_forall_mem];intro e he;cases hb:Region.binds .any e
    ·rfl
    ·simp only[ABB,yW];exact hD _ (h2 _ (List.mem_map.2 ⟨e,List.mem_filter.2 ⟨by simpa using he,hb⟩,rfl⟩))
theorem filter_le {l:AW} {p q:Nat->Bool} (h:∀x,q x=true->p x=true):(l.filter q).length<=(l.filter p).length:=by
 induction l with
 | nil=>simp
 | cons b l ih=>
  simp only[List.filter_cons];cases hq:q b
  ·cases hp:p b
   ·simpa using ih
   ·simp;omega
  ·rw[h b hq];simpa using ih
theorem filter_lt {l:AW} {p q:Nat->Bool} (h:∀x,q x=true->p x=true) {a:Nat} (ha:a∈l) (hp:p a=true) (hq:q a=false):(l.filter q).length < (l.filter p).length:=by
 induction l with
 | nil=>cases ha
 | cons b l ih=>
  simp only[List.filter_cons];have hle:=filter_le (l:=l) h;rcases List.mem_cons.1 ha with rfl | ha
  ·rw[hp,hq];simp;omega
  ·have:=ih ha;cases hqb:q b
   ·cases hpb:p b
    ·simpa using this
    ·simp;omega
   ·rw[h b hqb];simpa using this
theorem nM {P:Program} {ops:Array Oper} {BJ:List PE} (hwf:Iw ops BJ) (hok:EY P ops [] BJ=true):∀(fuel t:Nat) (listed:Array Bool),listed.size=ops.size->((List.range ops.size).filter fun i=> !listed.getD i true).length<=fuel->
 ∀i,i < ops.size->db listed i->i∈Region.linearise.go .any ops fuel t listed []:=by
 intro fuel;induction fuel with
 | zero=>
  intro t listed hsz hlen i hi hu;have:i∈(List.range ops.size).filter fun i=> !listed.getD i true:=List.mem_filter.2 ⟨by simpa using hi,by unfold db at hu;rw[hu];rfl⟩
  have:=List.length_pos_of_mem this;omega
 | succ fuel ih=>
  intro t listed hsz hlen i hi hu;unfold Region.linearise.go;simp only;obtain⟨r,hr1,hr2⟩:=Yd hsz BJ [] hwf hok (fun d hd=>by cases hd) ⟨i,hi,hu⟩;have hne:(List.filter (fun i=> !listed.getD i true&&(Option.map (fun x=>x.after.all fun e=> !Region.binds Region.Mode.any e||listed.getD e.on false) ops[i]?).getD false) (List.range ops.size)).length≠0:=by
   intro e;have:=Ss e;have hm:r∈(List.filter (fun i=> !listed.getD i true&&(Option.map (fun x=>x.after.all fun e=> !Region.binds Region.Mode.any e||listed.getD e.on false) ops[i]?).getD false) (List.range ops.size)):=List.mem_filter.2 ⟨by simpa using hr1,hr2⟩;rw[this]at hm;cases hm
  split
  ·rename_i q hq;have hmem:=cA hq;obtain⟨hlt,hready⟩:=List.mem_filter.1 hmem;obtain⟨huq,_⟩:=Ra hready;have hq0:q < ops.size:=by simpa using hlt
   rw[linearise_go_acc];simp only[List.reverse_cons,List.reverse_nil,ic,AAr]
   by_cases e:i=q
   ·subst e;simp
   ·refine oo _ (ih _ _ (by simpa using hsz) ?_ i hi ?_)
    ·have hsub:((List.range ops.size).filter fun i=> !(listed.setIfInBounds q true).getD i true).length < ((List.range ops.size).filter fun i=> !listed.getD i true).length:=by
      refine filter_lt (a:=q) (fun x hx=>?_) (by simpa using hq0) (by unfold db at huq;rw[huq];rfl) ?_
      ·by_cases ex:x=q
       ·subst ex;rw[UP,lV]at hx;simp[hsz,hq0]at hx
       ·rw[getD_set_ne _ (gi ex)]at hx;exact hx
      ·rw[UP,lV];simp[hsz,hq0]
     omega
    ·unfold db at hu ⊢;rw[getD_set_ne _ (gi e)];exact hu
  ·rename_i hq;rw[List.getElem?_eq_none_iff]at hq;have:=AAd t (Nat.pos_of_ne_zero hne);omega
def HJ (X:Ctx):Prop:=X.P.follows .mixedOrders=true/\∀ops p,X.BJ ops=some p->MV X.P ops=true/\Iw ops p/\EY X.P ops [] p=true
theorem fG {P:Program} {ops:Array Oper} {BJ:List PE} (hwf:Iw ops BJ) (hok:EY P ops [] BJ=true) (t:Nat):Wa ops (Region.schedule true ops t)/\∀i,i < ops.size->i∈Region.schedule true ops t:=by
 have e:Region.schedule true ops t=Region.linearise.go .any ops ops.size t (Array.replicate ops.size false) []:=by
  simp[Region.schedule,Region.linearise]
 rw[e];refine⟨(kQ ops.size t _ (by simp)).1,fun i hi=>nM hwf hok ops.size t _ (by simp) ?_ i hi ?_⟩
 ·have:=List.length_filter_le (fun i=> !(Array.replicate ops.size false).getD i true) (List.range ops.size);simpa using this
 ·unfold db;rw[UP,ABR];simp[hi]
theorem rI {P:Program} {fn:FuncId} {tm:BR} {k:List Item} {ds:List Deferred} {kd:CallKind} {rd:Option Nat} {cs:List Frame} {id:Nat} {ops:Array Oper}:
 step P (lone ⟨fn,tm,.code (.region id ops true)::k,ds,.run,kd,rd⟩ cs W)=
  .next (lone ⟨fn,tm,.inRegion ops (Region.schedule (P.follows .mixedOrders) ops (W.tape W.drawn (.order fn id)))::k,ds,.run,kd,rd⟩ cs { W with drawn:=W.drawn+1 }):=
 step_lone_go (by simp[stepG,stepG.exec,choose,Sem.run,Question.forced,Question.cut])
end
section
variable {X:Ctx} {base:Env} {W0:World} {μ:Ae} {H:AA} {W:World}
theorem cF (ops:Array Oper):(List.range ops.size).map (ops[·]?)=ops.toList.map some:=by
 apply AAs
 intro i;simp only[Sy,Wt]
 by_cases h:i < ops.size
 ·simp[h]
 ·simp[h]
theorem Th {P:Program} {fn:FuncId} {tm:BR} {k:List Item} {ds:List Deferred} {kd:CallKind} {rd:Option Nat} {cs:List Frame} {f:Operand} {ps:Array Tmp} {a b:Code} {l:Nat} {mark:List Deferred} {W' W2:World} {v:Value}
 (hl:(Instr.enterLoop fn tm ps a b rd).run P W= .ok (l,mark) W')
 (hr:(do let d ←resolve (Frame.eval ⟨fn,tm,.inRangeFunc l::k,mark++ds,.run,kd,rd⟩) { callee:= .value f,args:=#[.const (.func (.yield l) #[] #[])],argTypes:=#[] } 0;invoke d.target d.args:Sem Next).run P W'= .ok (.value v) W2):
 step P (lone ⟨fn,tm,.code (.rangeFunc f ps a b)::k,ds,.run,kd,rd⟩ cs W)= .next (lone (Frame.finish ⟨fn,tm,.inRangeFunc l::k,mark++ds,.run,kd,rd⟩ v) cs W2):=by
 refine step_lone_go ?_;simp only[stepG,stepG.exec,Sem.runT_eq,hl,GStep.bare_after];simp only[stepG.apply,Sem.runT_eq,AAR,GStep.bare_after];rw[hr];rfl
theorem Li (hok:ET X base W0) {gs:AW} {fn:FuncId} {t:Tr Value} {n:Nat} {tm:BR} {k:List B9} {k':List Item} {ds' ds1 mark:List Deferred} {kd:CallKind} {rd rd':Option Nat} {cs:List Aj} {cs' cs0:List Frame} {c':BT}
 {f:Operand} {ps:Array Tmp} {a b:Code} {l:Nat} {T:Bc} {μ1:Ae} {H1:AA} {W1:World}
 (hH:AJ base W0 μ1 H1 W1) (hlaid:Bj X μ1) (ht:Gj μ1 t n tm) (hk:EU μ1 k k') (hd:CT μ1 ds1 (mark++ds')) (hrd:HW μ1 rd rd') (hcs:Dv X μ1 H1 gs cs cs') (hnd:gs.Nodup) (hT:μ1 l=some T)
 (hl:(Instr.enterLoop fn tm ps a b rd').run X.P W= .ok (T.c,mark) W1)
 (h:Ni X (Bt X t f) [.func (.yield l) ⟨[]⟩ ⟨[]⟩] ⟨fn,t,n,.inRangeFunc l::k,ds1,false,kd,rd⟩ cs H1=some c'):
 C4 X base W0 cs0 c' (lone ⟨fn,tm,.code (.rangeFunc f ps a b)::k',ds',.run,kd,rd'⟩ (cs'++cs0) W):=by
 have hfr:Hh X μ1 H1 [] ⟨fn,t,n,.inRangeFunc l::k,ds1,false,kd,rd⟩ ⟨fn,tm,.inRangeFunc T.c::k',mark++ds',.run,kd,rd'⟩:=
  .plain fn t n tm _ _ _ _ false kd rd rd' ht (.cons (.inRangeFunc l T hT) hk) hd hrd
 have hf:=Mj (fr:=⟨fn,tm,.inRangeFunc T.c::k',mark++ds',.run,kd,rd'⟩) hlaid ht f;have hyv:Am μ1 [.func (.yield l) ⟨[]⟩ ⟨[]⟩] [.func (.yield T.c) #[] #[]]:= .cons (AH.CL.2 ⟨_,_,_,rfl,.yield l T hT,.nil,.nil⟩) .nil;have hmap:∀fr:Frame,(#[Operand.const (Value.func (Fn.yield T.c) #[] #[])]:Array Operand).map fr.eval=#[.func (.yield T.c) #[] #[]]:=fun fr=>by simp[Frame.eval]
 unfold Ni at h;split at h
 ·rename_i g first captured hfe;rw[hfe]at hf;obtain⟨fn',xs',ys',hfe',hfn,hx1,hy1⟩:=AH.CL.1 hf;cases hfn
  refine Q0 hok (args':=xs'++#[.func (.yield T.c) #[] #[]]++ys') hH hlaid hfr hcs hnd ?_ (fun nn cc he=> .one (Wc hl ?_)) (fun v hv=>?_) h
  ·simp only[pJ];exact(hx1.append hyv).append hy1
  ·simp only[resolve,hfe',Deferred.ofValue,Sem.run_bind,Sem.run_pure,Result.andThen_ok,invoke,hmap];exact JY he _ _
  ·exact .one (Th hl (by simp only[resolve,hfe',Deferred.ofValue,Sem.run_bind,Sem.run_pure,Result.andThen_ok,invoke,hmap];exact hv))
 ·rename_i l2 first captured hfe;rw[hfe]at hf;obtain⟨fn',xs',ys',hfe',hfn,hx1,hy1⟩:=AH.CL.1 hf;cases hfn with
  | yield _ T2 hT2=>
   refine QZ (args':=xs'++#[.func (.yield T.c) #[] #[]]) hH hlaid hfr hcs hnd ?_ hT2 (fun f2 t2 a2 b2 hy=> .one (T5 hl ?_)) h
   ·simp only[pJ];exact hx1.append hyv
   ·simp only[resolve,hfe',Deferred.ofValue,Sem.run_bind,Sem.run_pure,Result.andThen_ok,invoke,hmap];exact hy
 ·cases h
end
section
variable {X:Ctx} {base:Env} {W0:World} {μ:Ae} {H:AA} {W:World}
theorem Vr {o:Oper} {fr:Aj} {cs:List Aj} {c':BT} (hc:CA X.P o≠2) (h:LZ X o fr cs H=some c'):∃v H' fr1,ML X.P (Bt X fr.tmps) o H=some (v,H')/\CG fr v=some fr1/\c'=⟨fr1,cs,H'⟩:=by
 have key:(match ML X.P (Bt X fr.tmps) o H with
  | some (v,H')=>match CG fr v with
   | some fr'=>some (⟨fr',cs,H'⟩:BT)
   | none=>none
  | none=>none)=some c'->∃v H' fr1,ML X.P (Bt X fr.tmps) o H=some (v,H')/\CG fr v=some fr1/\c'=⟨fr1,cs,H'⟩:=by
  intro hm;split at hm
  ·rename_i v H' hio;split at hm
   ·rename_i fr1 hfin;cases hm
    exact⟨v,H',fr1,hio,hfin,rfl⟩
   ·cases hm
  ·cases hm
 unfold LZ at h;split at h
 ·rename_i c hop;split at h
  ·rename_i b hcal;cases hb:isRec b
   ·simp only[hb,EB]at h;exact key h
   ·exfalso;apply hc
    unfold CA;rw[hop];simp only[hcal];cases b<;>first | rfl | cases hb
  ·rename_i f hcal;exfalso;apply hc
   unfold CA;rw[hop];simp only[hcal]
  ·cases h
 ·rename_i c hop;exact absurd hop (So hc c)
 ·exact key h
theorem FM.ahead {ops:Array Oper} {t:Tr Value} {n i d:Nat} {tm:BR} {D:AW} {rest:List PE} {idx:AW} {G G':List (Nat × Nat)} {o:Oper} {v:Value} {H':AA} (ho:ops[i]? = some o) (hd:o.dst=some d) (hdn:d < n) (hcls:CA X.P o≠2)
 (h:FM X μ H ops t n tm D (.op i o::rest) idx G (En X H t (.op i o::rest))) (hext:KW H H') (hn:H.next<=H'.next)
 (hG:∀p∈G,p∈G') (hnew:NR X μ H' ops (t.put d (some v)) G' (En X H' (t.put d (some v)) rest) i o) (hgnd:(G'.map Prod.snd).Nodup) (hglt:∀b∈G'.map Prod.snd,b < H'.next):
 FM X μ H' ops (t.put d (some v)) n tm (i::D) rest idx G' (En X H' (t.put d (some v)) rest):=by
 obtain⟨hiD,hdeps,hok,_⟩:=Hm h.Uv;refine⟨h.stat,fun e he=>h.wf e (by simp[he]),hok,h.J2,?_,?_,h.sz,?_,?_,?_,hgnd,hglt⟩
 ·intro j oj hj hnj;obtain⟨h1,h2⟩:=h.V8 j oj hj hnj;exact⟨by simp[h1],h2⟩
 ·intro j oj hj hjD q hq;rcases List.mem_cons.1 hjD with rfl | hjD
  ·rw[ho]at hj;cases hj;simp[hdeps q hq]
  ·simp[h.ec j oj hj hjD q hq]
 ·intro u hu;have hui:i∈idx:=by
   rcases Classical.em (i∈idx)with q | q
   ·exact q
   ·exact absurd (h.V8 i o ho q).1 hiD
  have hne:u≠d:=by rintro rfl;exact hu i o ho (by simp) hui hd
  rw[EE _ _ hne];exact h.tmp u fun j oj hj hjD hji=>hu j oj hj (by simp[hjD]) hji
 ·intro j oj hj hjD hji;rcases List.mem_cons.1 hjD with rfl | hjD
  ·rw[ho]at hj;cases hj;exact hnew
  ·have hap:=h.apart ho hiD hd hj hjD (fun q=>absurd q hcls);have hlook:∀u,u≠d->look (t.put d (some v)) u=look t u:=fun u hu=>EE _ _ hu
   have hr:∀u∈Ew ops oj,look (t.put d (some v)) u=look t u:=fun u hu=>hlook u (by rintro rfl;exact hap.1 hu)
   have hdj:∀q,oj.dst=some q->look (t.put d (some v)) q=look t q:=fun q hq=>hlook q (by rintro rfl;exact hap.2 hq)
   have hp:NR X μ H ops (t.put d (some v)) G (En X H' (t.put d (some v)) rest) j oj:=by
    refine(h.lK j oj hj hjD hji).congr hr hdj fun q hq _ hc0 hf=>?_
    rcases hf with hf | ⟨H1,hf⟩
    ·simp[lead]at hf
    ·refine .inr ⟨H',?_⟩;rw[Nf hr,hdj q hq];exact(Rp hc0 hf).2 H' hext
   obtain⟨q,h1,h0,h2⟩:=hp;refine⟨q,h1,h0,?_⟩;rcases h2 with h2 | h2 | ⟨a,b,c,hc,obj,mk,e1,e2,e3,e4,e5⟩
   ·exact .inl h2
   ·exact .inr (.inl h2)
   ·exact .inr (.inr ⟨a,b,c,hG _ hc,obj,mk,e1,e2,nI e3 hn,e4,hext _ _ e5⟩)
 ·intro j oj q hj hjD hq;rcases List.mem_cons.1 hjD with rfl | hjD
  ·rw[ho]at hj;cases hj
   rw[hd]at hq;cases hq;exact hdn
  ·exact h.eZ j oj q hj hjD hq
theorem bZ (hok:ET X base W0) {fn:FuncId} {t:Tr Value} {n:Nat} {tm:BR} {ops:Array Oper} {BJ:List PE} {idx D:AW} {G:List (Nat × Nat)} {k:List B9} {k':List Item} {ds ds':List Deferred} {kd:CallKind} {rd rd':Option Nat}
 {cs:List Aj} {cs' cs0:List Frame} {gs:AW} {c':BT} (hH:AJ base W0 μ H W) (hlaid:Bj X μ) (hD:FM X μ H ops t n tm D BJ idx G (En X H t BJ)) (hk:EU μ k k') (hd:CT μ ds ds') (hr:HW μ rd rd')
 (hcs:Dv X μ H gs cs cs') (hnd:(G.map Prod.snd++gs).Nodup) (h:FD X ⟨⟨fn,t,n,.Ee ops BJ::k,ds,false,kd,rd⟩,cs,H⟩=some c'):
 C4 X base W0 cs0 c' (lone ⟨fn,tm,.inRegion ops idx::k',ds',.run,kd,rd'⟩ (cs'++cs0) W):=by
 unfold FD at h;simp only[EB]at h;cases BJ with
 | nil=>
  simp only[C5]at h;subst h;have hall:∀j∈idx,j∈D:=by
   intro j hj;have hlt:∀(l:AW),Wa ops l->∀j∈l,j < ops.size:=by
    intro l;induction l with
    | nil=>intro _ j hj;cases hj
    | cons a l ih=>
     intro ht j hj;obtain⟨⟨o,ho,_⟩,_,h3⟩:=ht;rcases List.mem_cons.1 hj with rfl | hj
     ·exact(Array.getElem?_eq_some_iff.1 ho).1
     ·exact ih h3 j hj
   have hok:=hD.Uv;unfold EY at hok;exact Ef.1 (List.all_eq_true.1 hok j (by simpa using hlt idx hD.J2 j hj))
  obtain⟨μ1,W1,O1,G1,q1,q2,q3,q4⟩:=iv (fn:=fn) (k':=k') (ds':=ds') (kd:=kd) (rd':=rd') (cs:=cs'++cs0) (gs:=gs) rfl idx μ W tm G hH hlaid hD hall hnd;refine⟨μ1,_,cs',W1,q1.trans (.one On),q2,hlaid.mono q4.le,[],gs,.plain fn t n O1 k k' ds ds' false kd rd rd' ⟨q3.sz,fun u=>q3.tmp u fun _ _ _ _ hm=>by cases hm⟩ (hk.mono q4.le) (hd.mono q4.le) (hr.mono q4.le),hcs.mono q4,(List.nodup_append.1 hnd).2.1⟩
 | cons e rest=>
  cases e with
  | SQ j o=>
   simp only at h;have hoj:ops[j]? = some o:=hD.wf (.SQ j o) (by simp);have hokp:=hD.Uv;unfold EY at hokp;simp only[Dg]at hokp;have hwf:Iw ops rest:=fun e he=>hD.wf e (by simp[he])
   have fin:(∀d,o.dst=some d->Cw ops o t=some true->CA X.P o=0->∃H1,ML X.P (Bt X t) o H=some (look t d,H1))->c'=⟨⟨fn,t,n,.Ee ops rest::k,ds,false,kd,rd⟩,cs,H⟩->
    C4 X base W0 cs0 c' (lone ⟨fn,tm,.inRegion ops idx::k',ds',.run,kd,rd'⟩ (cs'++cs0) W):=by
    rintro hfact rfl;refine⟨μ,_,cs',W,.refl _ _,hH,hlaid,G.map Prod.snd,gs,.drawn fn t n tm ops rest idx D G k k' ds ds' kd rd rd' ⟨hD.stat,hwf,hokp.2,hD.J2,hD.V8,hD.ec,hD.sz,hD.tmp,fun i oi hi hiD hii=>?_,hD.eZ,hD.gZ,hD.eb⟩ hk hd hr,hcs,hnd⟩;refine(hD.lK i oi hi hiD hii).congr (fun _ _=>rfl) (fun _ _=>rfl) fun d hdd hw hc0 hf=>?_
    rcases hf with hf | hf
    ·simp only[lead,Ul]at hf;rcases hf with rfl | hf
     ·rw[hoj]at hi;cases hi
      exact .inr (hfact d hdd hw hc0)
     ·exact .inl hf
    ·exact .inr hf
   split at h
   ·rename_i hw;split at h
    ·rename_i d v H1 hdd hio;cases hs:Jw 8 v (look t d)
     ·simp[hs]at h
     ·simp only[hs,C8,C5]at h;refine fin (fun d2 hd2 _ _=>?_) h.symm;rw[hdd]at hd2;cases hd2
      exact⟨H1,by rw[hio,WH 8 _ _ hs]⟩
    ·cases h
   ·rename_i hw;simp only[C5]at h;exact fin (fun d _ hw2 _=>by rw[hw]at hw2;cases hw2) h.symm
   ·cases h
  | op i o=>
   simp only at h;have hoi:ops[i]? = some o:=hD.wf (.op i o) (by simp);obtain⟨hiD,hdeps,hokr,hX⟩:=Hm hD.Uv;have hii:i∈idx:=by
    rcases Classical.em (i∈idx)with q | q
    ·exact q
    ·exact absurd (hD.V8 i o hoi q).1 hiD
   by_cases hcls:CA X.P o=2
   ·
    obtain⟨μ1,W1,O1,G1,idx1,q1,q2,q3,q4,q5⟩:=l6 (fn:=fn) (k':=k') (ds':=ds') (kd:=kd) (rd':=rd') (cs:=cs'++cs0) (gs:=gs) hcls idx μ W tm G hH hlaid hD hii hnd;have hlaid1:=hlaid.mono q4.le;have hcs1:=hcs.mono q4;have hnd1:(G1.map Prod.snd++gs).Nodup:=hnd.sublist (q5.append (AAP _));have hsus:=q3.suspend hcls hoi;have hfr:∀ds1 ds1',CT μ1 ds1 ds1'->Hh X μ1 H (G1.map Prod.snd) ⟨fn,t,n,.Ee ops (.op i o::rest)::k,ds1,false,kd,rd⟩ ⟨fn,O1,.inRegion ops (i::idx1)::k',ds1',.run,kd,rd'⟩:=fun ds1 ds1' hd1=>
     .KA fn t n O1 ops i o rest idx1 D G1 k k' ds1 ds1' kd rd rd' hoi hsus (hk.mono q4.le) hd1 (hr.mono q4.le)
    have hreads:=q3.reads hoi;have hwant:∀b,Cw ops o t=some b->Region.wanted o (yielded ops O1)=b:=fun b hb=>KO (fun q w u hg hu=>hreads u (KJ hg hu)) hb
    have after:∀{m:Machine},C4 X base W0 cs0 c' m->Steps X.P (lone ⟨fn,tm,.inRegion ops idx::k',ds',.run,kd,rd'⟩ (cs'++cs0) W) m->C4 X base W0 cs0 c' (lone ⟨fn,tm,.inRegion ops idx::k',ds',.run,kd,rd'⟩ (cs'++cs0) W):=by
     rintro m ⟨a1,a2,a3,a4,a5,a6⟩ hs;exact⟨a1,a2,a3,a4,hs.trans a5,a6⟩
    split at h
    ·rename_i hw;refine after (U7 hok q2 hlaid1 hoi (hd.mono q4.le) (hr.mono q4.le) hcs1 hnd1 hfr (fun x hx=>OM hlaid1 x fun u hu=>hreads u (OY (by rw[<-hu];exact hx))) (hwant true hw) h) q1
    ·rename_i hw;split at h
     ·rename_i fr1 hfin;cases h
      refine after ⟨μ1,_,cs',W1,.one (P5 hoi (hwant false hw)),q2,hlaid1,G1.map Prod.snd,gs,Dl (hfr ds ds' (hd.mono q4.le)) (AH.undef μ1) hfin,hcs1,hnd1⟩ q1
     ·cases h
    ·cases h
   ·
    obtain⟨d,hdd⟩:=jf hD.stat hoi hcls;have hcl01:CA X.P o=0∨CA X.P o=1:=by
     have:CA X.P o<=2:=by
      unfold CA;split<;>first | omega | (cases (Yx X.P _).isSome<;>decide) | (cases II X.P _<;>decide) | (split<;>first | omega | (split<;>omega))
     omega
    have hself:∀u∈Ew ops o,u≠d:=fun u hu e=>(MT hD.stat hoi hoi hu (by rw[e];exact hdd)).elim (fun q=>hiD (hdeps i q)) fun q=>hcls q.1
    have hrd:∀v:Value,∀u∈Ew ops o,look (t.put d (some v)) u=look t u:=fun v u hu=>EE _ _ (hself u hu)
    have hfinI:∀v fr1,CG ⟨fn,t,n,.Ee ops (.op i o::rest)::k,ds,false,kd,rd⟩ v=some fr1->d < n/\fr1=⟨fn,t.put d (some v),n,.Ee ops rest::k,ds,false,kd,rd⟩:=by
     intro v fr1 hf;unfold CG at hf;rw[K6]at hf;simp only[hdd]at hf;cases hlt:Nat.blt d n
     ·simp[hlt]at hf
     ·simp only[hlt,C8,C5]at hf;exact⟨BE hlt,hf.symm⟩
    split at h
    ·rename_i hw;obtain⟨v,H',fr1,hio,hfin,rfl⟩:=Vr hcls h;obtain⟨hdn,rfl⟩:=hfinI v fr1 hfin;have hio0:ML X.P (Bt X t) o H=some (v,H'):=hio;rcases hcl01 with hc | hc
     ·obtain⟨rfl,_⟩:=Rp hc hio0;refine⟨μ,_,cs',W,.refl _ _,hH,hlaid,G.map Prod.snd,gs,.drawn fn _ n tm ops rest idx (i::D) G k k' ds ds' kd rd rd' (hD.ahead hoi hdd hdn hcls (fun _ _ hb=>hb) (GO _) (fun _ hp=>hp) ⟨d,hdd,hcls,.inr (.inl ⟨by rw[Gv (hrd v)];exact hw,hc,.inr ⟨H',?_⟩⟩)⟩ hD.gZ hD.eb) hk hd hr,hcs,hnd⟩;rw[Nf (hrd v),Dq];exact hio0
     ·obtain⟨obj,mk,rfl,rfl,h3,h4,_⟩:=Z3 hc hio0;have hfresh:=hH.fresh H.next (GO _);have hnG:H.next∉G.map Prod.snd:=fun hm=>uB _ (hD.eb _ hm)
      have hngs:H.next∉gs:=fun hm=>uB _ (hcs.lt _ hm)
      have hext:=KW.alloc hH obj;have hkeep:FW gs μ H μ (H.alloc obj):=⟨Ae.le_refl _,by simp[AA.alloc],fun b _ hb hm=>⟨hm,by rw[AA.AM,JT (by omega)]⟩⟩;refine⟨μ,_,cs',W,.refl _ _,hH.ghost obj,hlaid,((i,H.next)::G).map Prod.snd,gs,.drawn fn _ n tm ops rest idx (i::D) ((i,H.next)::G) k k' ds ds' kd rd rd' (hD.ahead hoi hdd hdn hcls hext (by simp[AA.alloc]) (fun _ hp=>by simp[hp])
       ⟨d,hdd,hcls,.inr (.inr ⟨by rw[Gv (hrd _)];exact hw,hc,H.next,by simp,obj,mk,Dq _ _ _,fun H2=>by rw[Nf (hrd _)];exact h3 H2,by simp[AA.alloc],hfresh.2,by rw[AA.AM,MB rfl]⟩)⟩
       (by simp only[Sm,lW];exact⟨hnG,hD.gZ⟩) ?_) hk hd hr,hcs.mono hkeep,?_⟩
      ·intro b hb;simp only[Sm,Ul]at hb;rcases hb with rfl | hb
       ·simp[AA.alloc]
       ·have:=hD.eb b hb;simp only[AA.alloc];omega
      ·simp only[Sm,sK,lW];exact⟨fun hm=>(List.mem_append.1 hm).elim hnG hngs,hnd⟩
    ·rename_i hw;split at h
     ·rename_i fr1 hfin;cases h
      obtain⟨hdn,rfl⟩:=hfinI _ fr1 hfin;exact⟨μ,_,cs',W,.refl _ _,hH,hlaid,G.map Prod.snd,gs,.drawn fn _ n tm ops rest idx (i::D) G k k' ds ds' kd rd rd' (hD.ahead hoi hdd hdn hcls (fun _ _ hb=>hb) (GO _) (fun _ hp=>hp) ⟨d,hdd,hcls,.inl ⟨by rw[Gv (hrd _)];exact hw,Dq _ _ _⟩⟩ hD.gZ hD.eb) hk hd hr,hcs,hnd⟩
     ·cases h
    ·cases h
end
end Go.AD
