/-
  Part of the proof: fixed runs of a program. No conditions.
-/
import Derived.Test.YtfnfimeefeigdaaGreatDoorIdIop
import Derived.Test.YtfnfimeefeigdaaGreatDoorIdVec
import Derived.Laws.StructEq
noncomputable section
namespace Go.AB
inductive VT where
 | fail
 | ret (v:Value) (H:AA)
 | test (c:Bool) (a b:VT)
def VT.run:VT->Option (Value × AA)
 | .fail=>none
 | .ret v H=>some (v,H)
 | .test c a b=>bif c then a.run else b.run
deriving instance DecidableEq for SK
abbrev Ib:EK:=[.int .u8]
def Ci(s:Ag):Au:=s.data.toList.map fun b=>(b.toNat:Int)
def B5(s:Ag)(i:Nat):Int:=((s.data.toList.getD i 0).toNat:Int)
def YM(l:Au):Ag:=⟨⟨l.map fun n=>UInt8.ofNat n.toNat⟩⟩
def Wk:TypeDesc->Bool
 | .slice _=>true
 | _=>false
def lJ:Value->Bool
 | .slice _ _ _=>true
 | _=>false
def rI:Value->Option Addr
 | .slice a _ _=>a
 | _=>none
def re:Value->Nat
 | .slice _ n _=>n
 | _=>0
def rm:Value->Nat
 | .slice _ _ c=>c
 | _=>0
theorem Zu{v:Value}(h:lJ v=true): .slice (rI v) (re v) (rm v)=v:=by
 cases v<;>first | rfl | cases h
def Ij(P:Program)(t:TypeId)(b o i:Nat)(H:AA):VT:=
 match H.get b with
 | some (.vec k l _)=>
  match P.underlying t,D6 P t with
  | some d,some n=>
   bif Nat.ble (o+n) k.length then
    bif Ej d then .test (Nat.blt i l.length) (.ret (.agg ⟨((EK.enc k (l.getD i (EK.BJ k))).drop o).take n⟩) H) .fail
    else match (EK.enc k (l.getD i (EK.BJ k)))[o]? with
     | some v=>bif Wk d then .test (Nat.blt i l.length&&lJ v) (.ret (.slice (rI v) (re v) (rm v)) H) .fail else .test (Nat.blt i l.length) (.ret v H) .fail
     | none=> .fail
   else .fail
  | _,_=> .fail
 | _=> .fail
def Rb(P:Program)(t:TypeId)(b o i:Nat)(x:Value)(H:AA):VT:=
 match H.get b with
 | some (.vec k l false)=>
  match D6 P t with
  | some n=>
   bif Nat.beq x.cells.toList.length n&&x.cells.toList.all Bc&&Nat.ble (o+x.cells.toList.length) k.length then
    match EK.dec k (Be (EK.enc k (l.getD i (EK.BJ k))) o x.cells.toList)with
    | some e=> .test (Nat.blt i l.length) (.ret Go.undef (H.put b (.vec k (l.set i e) false))) .fail
    | none=> .fail
   else .fail
  | none=> .fail
 | _=> .fail
def It(P:Program)(t:TypeId)(b o i:Nat)(H:AA):VT:= .test (Nat.blt o AT) (Ij P t b o i H) .fail
def aH(P:Program)(t:TypeId)(b o i:Nat)(x:Value)(H:AA):VT:= .test (Nat.blt o AT) (Rb P t b o i x H) .fail
def GC(P:Program)(t:TypeId)(b j n:Nat)(ix:Value)(H:AA):VT:=
 match ix with
 | .int _ m=>
  match P.underlying t,H.get b with
  | some (.slice e),some (.vec k _ _)=>
   match D6 P e with
   | some sz=>bif Nat.beq sz k.length then .test (decide (0<=m)&&Nat.blt m.toNat n) (.ret (.pointer (some ⟨b,0,some (j+m.toNat)⟩)) H) .fail else .fail
   | none=> .fail
  | _,_=> .fail
 | _=> .fail
def Gi(P:Program)(t:TypeId)(b j:Nat)(ix:Value)(H:AA):VT:=
 match ix with
 | .int _ m=>
  match P.underlying t,H.get b with
  | some (.array n e),some (.vec k _ _)=>
   match D6 P e with
   | some sz=>bif Nat.beq sz k.length then .test (decide (0<=m)&&Nat.blt m.toNat n) (.ret (.pointer (some ⟨b,0,some (j+m.toNat)⟩)) H) .fail else .fail
   | none=> .fail
  | _,_=> .fail
 | _=> .fail
def Fa(P:Program)(s:TypeId)(b o i k:Nat)(H:AA):VT:=
 match P.underlying s with
 | some (.struct fields)=>
  match fields.toList[k]? with
  | some f=>match D6 P f.type with
   | some n=>bif Nat.beq n 0 then .fail else .test (Nat.blt (o+f.offset) AT) (.ret (.pointer (some ⟨b,o+f.offset,some i⟩)) H) .fail
   | none=> .fail
  | none=> .fail
 | _=> .fail
def Ih(P:Program)(s:TypeId)(b o i k:Nat)(H:AA):VT:= .test (Nat.blt o AT) (Fa P s b o i k H) .fail
def LV:DJ->Nat->Option Int
 | none,d=>some (Int.ofNat d)
 | some (.int _ n),_=>some n
 | some _,_=>none
def Gx(P:Program)(t:TypeId)(s:Ag)(lo hi:DJ)(H:AA):VT:=
 match P.underlying t,LV lo 0,LV hi s.size with
 | some .string,some l,some h=> .test (decide (0<=h)&&Nat.ble h.toNat s.size&&decide (0<=l)&&Nat.ble l.toNat h.toNat) (.ret (.string (s.extract l.toNat h.toNat)) H) .fail
 | _,_,_=> .fail
def Kv(P:Program)(t:TypeId)(b j n c:Nat)(lo hi:DJ)(H:AA):VT:=
 match P.underlying t,H.get b,LV lo 0,LV hi n with
 | some (.slice e),some (.vec k _ _),some l,some h=>
  match D6 P e with
  | some sz=>bif Nat.beq sz k.length&&Nat.beq c AT then
   .test (decide (0<=h)&&Nat.ble h.toNat n&&decide (0<=l)&&Nat.ble l.toNat h.toNat) (.ret (.slice (some ⟨b,0,some (j+l.toNat)⟩) (h.toNat - l.toNat) AT) H) .fail
   else .fail
  | none=> .fail
 | _,_,_,_=> .fail
def I6(P:Program)(t:TypeId)(b j n c:Nat)(lo hi:DJ)(mx:Value)(H:AA):VT:=
 match P.underlying t,H.get b,LV lo 0,hi,mx with
 | some (.slice e),some (.vec k _ _),some l,some (.int _ h),.int _ m=>
  match D6 P e with
  | some sz=>bif Nat.beq sz k.length&&Nat.beq c AT then
   .test (decide (0<=m)&&Nat.ble m.toNat n&&Nat.blt m.toNat AT&&decide (0<=h)&&Nat.ble h.toNat m.toNat&&decide (0<=l)&&Nat.ble l.toNat h.toNat) (.ret (.slice (some ⟨b,0,some (j+l.toNat)⟩) (h.toNat - l.toNat) AT) H) .fail
   else .fail
  | none=> .fail
 | _,_,_,_,_=> .fail
def Rg(k:EK):Nat->AL->Option (List (EK.C k))
 | 0,_=>some []
 | n+1,cs=>match EK.dec k (cs.take k.length),Rg k n (cs.drop k.length)with
  | some x,some l=>some (x::l)
  | _,_=>none
def uZ(k:EK)(x:Value)(H:AA):Option (Bool × Nat × List (EK.C k)):=
 match x with
 | .slice none n _=>bif Nat.beq n 0 then some (true,0,[])else none
 | .slice (some ⟨b,0,some j⟩) n _=>
  match H.get b with
  | some (.vec k' l _)=>if h:k'=k then some (Nat.ble (j+n) l.length,n,((h ▸ l:List (EK.C k)).drop j).take n)else none
  | _=>none
 | .slice (some ⟨b,o,none⟩) n c=>
  match Ek k.length (.slice (some ⟨b,o,none⟩) n c) H with
  | some (m,cs)=>match Rg k m cs with
   | some l=>some (true,m,l)
   | none=>none
  | none=>none
 | .string s=>match k with
  | [.int .u8]=>some (true,s.size,Ci s)
  | _=>none
 | _=>none
def Bn(bytes m:Nat):Bool:=Nat.ble ((2 * m+192) * bytes) 281474976710656&&Nat.ble m 4611686018427387904
def QN(k:EK)(bytes:Nat)(s:Value)(c:Bool)(n:Nat)(new:List (EK.C k))(H:AA):Option VT:=
 match s with
 | .slice none len cap=>bif Nat.beq len 0&&Nat.beq cap 0 then
  some (.test c (.test (Nat.beq n 0) (.ret (.slice none 0 0) H) (.test (Bn bytes n) (.ret (.slice (some ⟨H.next,0,some 0⟩) n AT) (H.alloc (.vec k new false))) .fail)) .fail)
  else some .fail
 | .slice (some ⟨b,0,some j⟩) len cap=>
  match H.get b with
  | some (.vec k' l false)=>bif Nat.beq cap AT then if h:k'=k then
   some (.test (c&&Nat.ble (j+len) l.length&&Bn bytes (len+n))
    (.ret (.slice (some ⟨H.next,0,some 0⟩) (len+n) AT) ((H.del b).alloc (.vec k (((h ▸ l:List (EK.C k)).drop j).take len++new) false))) .fail)
   else some .fail else some .fail
  | _=>some .fail
 | .slice (some ⟨b,off,none⟩) len cap=>
  match H.get b with
  | some (.cells cs e false)=>
   match Rg k len ((cs.drop off).take (len * k.length))with
   | some GM=>
    bif Nat.blt cap AT then
     bif Nat.beq len cap then some (.test c (.test (Nat.beq n 0) (.ret s H) (.test (Bn bytes (len+n)) (.ret (.slice (some ⟨H.next,0,some 0⟩) (len+n) AT) (H.alloc (.vec k (GM++new) false))) .fail)) .fail)
     else none
    else bif Nat.beq e k.length then
     some (.test (c&&Bn bytes (len+n)) (.ret (.slice (some ⟨H.next,0,some 0⟩) (len+n) AT) ((H.del b).alloc (.vec k (GM++new) false))) .fail)
    else some .fail
   | none=>some .fail
  | _=>some .fail
 | _=>some .fail
def SK.plain:SK->Bool
 | .tok=>false
 | _=>true
def isRow:Value->Bool
 | .slice (some ⟨_,_,some _⟩) _ _=>true
 | _=>false
def isStr:Value->Bool
 | .string _=>true
 | _=>false
def FU(P:Program)(t:TypeId):Bool:=
 match P.underlying t with
 | some (.slice e)=>match P.underlying e,kindOf P 4 e,Is P e with
  | some (.int .u8),some [.int .u8],some [.int .u8 0]=>match P.info? e with
   | some i=>Nat.beq i.size 1&&Nat.beq i.bytes 1
   | none=>false
  | _,_,_=>false
 | _=>false
def rS:Value->Bool
 | .slice (some _) n _=>Nat.beq n 2
 | _=>false
def qZ:Value->Bool
 | .slice (some _) n _=>Nat.beq n 1
 | _=>false
def opT(P:Program)(t:TypeId):Bool:=
 match P.underlying t with
 | some (.slice e)=>match kindOf P 4 e with
  | some [.int .i64,.int .i64,.int .i64,.str,.str]=>true
  | _=>false
 | _=>false
def isNil:Value->Bool
 | .slice none _ _=>true
 | _=>false
def w7(P:Program)(e:TypeId):Option EK:=
 match kindOf P 4 e with
 | some k=>some k
 | none=>match P.underlying e with
  | some (.slice _)=>some [.tok]
  | some (.struct fs)=>match fs.toList with
   | [a,b]=>match P.underlying a.type,P.underlying b.type with
    | some .string,some (.slice _)=>some [.str,.tok]
    | _,_=>none
   | _=>none
  | _=>none
def fD(P:Program)(sT xT:TypeId)(s x:Value):Option Int:=
 match s,x with
 | .slice none _ _,.int _ n=>bif FU P sT&&Ny (P.underlying xT)then some n else none
 | _,_=>none
def QI(P:Program)(argTypes:Array TypeId)(args:AL)(H:AA):Option VT:=
 match argTypes.toList,args with
 | [sT,xT],[s,x]=>
  match fD P sT xT s x with
  | some n=>QN Ib 1 s (decide (0<=n)&&decide (n<=140737488355328)) n.toNat (List.replicate n.toNat (0:Int)) H
  | none=>
  bif isRow s||isRow x||isStr x||(isNil s&&rS x&&FU P sT)||(isNil s&&qZ x&&opT P sT)then
   match P.underlying sT with
   | some (.slice e)=>
    match P.info? e,Is P e,w7 P e with
    | some i,some z,some k=>
     bif Dj (P.underlying xT)&&Nat.beq z.length i.size&&Nat.beq k.length i.size&& !(Nat.beq k.length 0)then
      match uZ k x H with
      | some (c,n,new)=>bif k.all SK.plain||(!isRow x&&(Ac k new).all Bc)then QN k i.bytes s c n new H
       else bif isRow x then(match QN k i.bytes s c n new H with
        | some t=>some (.test ((Ac k new).all Bc) t .fail)
        | none=>none)else some .fail
      | none=>some .fail
     else some .fail
    | _,_,_=>some .fail
   | _=>some .fail
  else none
 | _,_=>none
def FY(P:Program)(src dst:TypeId)(x:Value)(H:AA):Option VT:=
 match x with
 | .slice (some ⟨b,0,some j⟩) n _=>
  some (match P.underlying src,P.underlying dst,H.get b with
  | some (.slice e),some .string,some (.vec [.int .u8] l _)=>
   match P.underlying e with
   | some (.int .u8)=> .test (Nat.ble (j+n) l.length) (.ret (.string (YM ((l.drop j).take n))) H) .fail
   | _=> .fail
  | _,_,_=> .fail)
 | .string s=>
  match P.underlying src,P.underlying dst with
  | some .string,some (.slice e)=>
   match P.underlying e with
   | some (.int .u8)=>some (.ret (.slice (some ⟨H.next,0,some 0⟩) s.size AT) (H.alloc (.vec Ib (Ci s) false)))
   | _=>none
  | _,_=>none
 | _=>none
def Yp(it:Value)(isString:Bool)(H:AA):Option VT:=
 match it,isString with
 | .pointer (some ⟨r,0,none⟩),true=>
  match H.get r with
  | some (.Cv s pos)=>
   some (.test (Nat.blt pos s.size)
    (.ret (.tuple ⟨[.bool true,.int .i64 (Int.ofNat pos),.int .i32 (Utf8.decode s pos).1]⟩) (H.put r (.Cv s (pos+(Utf8.decode s pos).2))))
    (.ret (.tuple ⟨[.bool false]⟩) H))
  | _=>none
 | _,_=>none
def Gg(P:Program)(t:TypeId)(s:Ag)(ix:Value)(H:AA):VT:=
 match P.underlying t,ix with
 | some .string,.int _ m=> .test (decide (0<=m)&&Nat.blt m.toNat s.size) (.ret (.int .u8 (B5 s m.toNat)) H) .fail
 | _,_=> .fail
def Zr:Value->Bool
 | .int .u32 _=>true
 | _=>false
def gr:Value->Int
 | .int _ n=>n
 | _=>0
def Eo(P:Program)(t:TypeId)(cs:AL)(ix:Value)(H:AA):Option VT:=
 match P.underlying t,ix with
 | some (.array n e),.int _ m=>
  match P.underlying e,D6 P e with
  | some (.int .u32),some sz=>bif Nat.beq sz 1 then some (.test (decide (0<=m)&&Nat.blt m.toNat n&&Zr (cs.getD m.toNat Bo)) (.ret (.int .u32 (gr (cs.getD m.toNat Bo))) H) .fail)else none
  | _,_=>none
 | _,_=>none
def M3(op:BinOp)(x y:Value)(H:AA):Option VT:=
 match op,x,y with
 | .quo,.int k a,.int k' b=>bif decide (k=k')then some (.test (decide (b≠0)) (.ret (.int k (k.wrap (a.tdiv b))) H) .fail)else none
 | .rem,.int k a,.int k' b=>bif decide (k=k')then some (.test (decide (b≠0)) (.ret (.int k (a.tmod b)) H) .fail)else none
 | .shl,.int k a,.int _ b=>some (.test (decide (0<=b)) (.ret (.int k (k.wrap (a * 2 ^ (min b.toNat k.bits)))) H) .fail)
 | .shr,.int k a,.int _ b=>some (.test (decide (0<=b)) (.ret (.int k (a.fdiv (2 ^ (min b.toNat k.bits)))) H) .fail)
 | .add,.string a,.string b=>some (.test (Nat.ble (a.size+b.size) 9223372036854775807) (.ret (.string (a++b)) H) .fail)
 | _,_,_=>none
def dP(P:Program):List Field->AL->AL->Option Bool
 | [],_,_=>some true
 | f::fs,xs,ys=>
  bif f.name== "_" then none else
  match P.underlying f.type,xs[f.offset]?,ys[f.offset]?,dP P fs xs ys with
  | some (.int _),some (.int k a),some (.int k' b),some r=>bif decide (k=k')then some ((a==b)&&r)else none
  | some .bool,some (.bool a),some (.bool b),some r=>some ((a==b)&&r)
  | some .string,some (.string a),some (.string b),some r=>some ((a.toList==b.toList)&&r)
  | _,_,_,_=>none
def Zc(P:Program)(op:BinOp)(t:TypeId)(x y:Value):DJ:=
 match op,x,y with
 | .eql,.agg xs,.agg ys=>match P.underlying t with
  | some (.struct fs)=>bif !P.stoodInHeld t&& !P.eqGuardType P.depth t then(dP P fs.toList xs.toList ys.toList).map .bool else none
  | _=>none
 | .neq,.agg xs,.agg ys=>match P.underlying t with
  | some (.struct fs)=>bif !P.stoodInHeld t&& !P.eqGuardType P.depth t then(dP P fs.toList xs.toList ys.toList).map fun b=> .bool (!b)else none
  | _=>none
 | _,_,_=>none
def jE(P:Program)(op:BinOp)(t:TypeId)(x y:Value):Option (Bool × Bool):=
 match op,x,y with
 | .eql,.slice (some ⟨_,_,some _⟩) n _,.slice none _ _=>match P.underlying t with
  | some (.slice _)=>some (Nat.blt 0 n,false)
  | _=>none
 | .neq,.slice (some ⟨_,_,some _⟩) n _,.slice none _ _=>match P.underlying t with
  | some (.slice _)=>some (Nat.blt 0 n,true)
  | _=>none
 | _,_,_=>none
def Jp(P:Program)(op:BinOp)(t:TypeId)(x y:Value)(H:AA):Option VT:=
 match Zc P op t x y with
 | some v=>some (.ret v H)
 | none=>match jE P op t x y with
  | some (c,r)=>some (.test c (.ret (.bool r) H) .fail)
  | none=>M3 op x y H
def Xw(_:Program)(_:TypeId):Option TypeId:=none
def UA(P:Program)(t:TypeId)(H:AA):Option VT:=
 match Xw P t with
 | some e=>some (.ret (.pointer (some ⟨H.next,0,none⟩)) (H.alloc (.abs (.eX t e []) false)))
 | none=>none
def Qh(P:Program)(t:TypeId)(len cap:Value)(H:AA):Option VT:=
 bif FU P t then
  match len,cap with
  | .int .u8 n,.int .u8 c=>some (.test (decide (0<=n)&&decide (n<=c)&&decide (c<=140737488355328)) (.ret (.slice (some ⟨H.next,0,some 0⟩) n.toNat AT) (H.alloc (.vec Ib (List.replicate n.toNat 0) false))) .fail)
  | .int _ (.ofNat 0),.int _ c=>some (.test (decide (0<=c)&&decide (c<=140737488355328)) (.ret (.slice (some ⟨H.next,0,some 0⟩) 0 AT) (H.alloc (.vec Ib [] false))) .fail)
  | _,_=>none
 else none
def UJ(P:Program)(t:TypeId)(len cap:Value)(H:AA):Option VT:=
 match len with
 | .int .i64 n=>bif FU P t then some (.test (decide (0<=n)&&decide (n<=140737488355328)) (.ret (.slice (some ⟨H.next,0,some 0⟩) n.toNat AT) (H.alloc (.vec Ib (List.replicate n.toNat 0) false))) .fail)else none
 | _=>Qh P t len cap H
def PZ:Operand->Operand->Bool
 | .tmp a,.tmp b=>Nat.beq a b
 | _,_=>false
def YS(P:Program)(t:TypeId)(x:Value)(k:IntKind)(m:Int)(H:AA):Nat->VT
 | 0=> .fail
 | j+1=>match Gm P t x (.int k (.ofNat j))with
  | some p=> .test (m== .ofNat j) (.ret p H) (YS P t x k m H j)
  | none=> .fail
def MY(P:Program)(t:TypeId)(x ix:Value)(H:AA):Option VT:=
 match x,ix with
 | .slice (some ⟨_,_,none⟩) n _,.int k m=>bif Nat.ble n 12 then some (YS P t x k m H n)else none
 | _,_=>none
def TY(P:Program)(argTypes:Array TypeId)(args:AL)(H:AA):Option VT:=
 match argTypes.toList,args with
 | t::_,[.slice (some ⟨b,0,some j⟩) n _]=>
  match P.underlying t,H.get b with
  | some (.slice e),some (.vec k l false)=>
   match Is P e with
   | some z=>
    match EK.dec k z with
    | some x=>bif Nat.beq z.length k.length&&z.all Bc then some (.test (Nat.beq n 0) (.ret Go.undef H) (.test (Nat.ble (j+n) l.length) (.ret Go.undef (H.put b (.vec k (l.take j++(List.replicate n x++l.drop (j+n))) false))) .fail))else some .fail
    | none=>some .fail
   | none=>some .fail
  | _,_=>some .fail
 | _,_=>none
def Us(P:Program)(ρ:Operand->Value)(o:Oper)(H:AA):Option VT:=
 match o.op with
 | .load t a=>match ρ a with
  | .pointer (some ⟨b,o,some i⟩)=>some (It P t b o i H)
  | _=>none
 | .store t a x=>match ρ a with
  | .pointer (some ⟨b,o,some i⟩)=>some (aH P t b o i (ρ x) H)
  | _=>none
 | .indexAddr t x i=>match ρ x with
  | .slice (some ⟨b,0,some j⟩) n _=>some (GC P t b j n (ρ i) H)
  | .pointer (some ⟨b,0,some j⟩)=>some (Gi P t b j (ρ i) H)
  | _=>MY P t (ρ x) (ρ i) H
 | .index t x i=>match ρ x with
  | .string s=>some (Gg P t s (ρ i) H)
  | .agg xs=>Eo P t xs.toList (ρ i) H
  | _=>none
 | .fieldAddr s x k=>match ρ x with
  | .pointer (some ⟨b,o,some i⟩)=>some (Ih P s b o i k H)
  | _=>none
 | .slice t x lo hi none=>match ρ x with
  | .string s=>some (Gx P t s (lo.map ρ) (hi.map ρ) H)
  | .slice (some ⟨b,0,some j⟩) n c=>some (Kv P t b j n c (lo.map ρ) (hi.map ρ) H)
  | _=>none
 | .slice t x lo hi (some m)=>match ρ x with
  | .slice (some ⟨b,0,some j⟩) n c=>some (I6 P t b j n c (lo.map ρ) (hi.map ρ) (ρ m) H)
  | _=>none
 | .next it s=>Yp (ρ it) s H
 | .binOp op t x y _=>Jp P op t (ρ x) (ρ y) H
 | .convert s d x=>FY P s d (ρ x) H
 | .call c=>match c.callee with
  | .builtin .append=>QI P c.argTypes (c.args.toList.map ρ) H
  | .builtin .clear=>TY P c.argTypes (c.args.toList.map ρ) H
  | _=>none
 | .alloc t=>UA P t H
 | .makeSlice t l c=>bif PZ l c then UJ P t (ρ l) (ρ c) H else Qh P t (ρ l) (ρ c) H
 | _=>none
def L8(P:Program)(ρ:Operand->Value)(o:Oper)(H:AA):Option (Value × AA):=
 match Us P ρ o H with
 | some t=>t.run
 | none=>O2 P ρ o H
section
variable {P:Program}{base:Env}{W0:World}{Z:AW}{H:AA}{W:World}
theorem AH.congr(h:AH base W0 Z H W){H':AA}(hg:∀b,H'.get b=H.get b)(hn:H'.next=H.next):AH base W0 Z H' W:=by
 refine⟨fun b o hb=>h.obj b o (by rw[<-hg];exact hb),fun b o hb=>h.own b o (by rw[<-hg];exact hb),fun b1 b2 o1 o2 h1 h2=>h.inj b1 b2 o1 o2 (by rw[<-hg];exact h1) (by rw[<-hg];exact h2),?_,h.bound,h.size,h.below,h.out,h.os,?_,h.le,h.grow⟩
 .intro b hb;rw[hg];rw[hn]at hb;exact h.fresh b hb
 .obtain⟨φ,q⟩:=h.abs;exact⟨φ,fun b a ro T h1 h2=>q.rep b a ro T (by rw[<-hg];exact h1) h2,fun b a ro T h1 h2 b2 o2 T2 h3=>q.C3 b a ro T (by rw[<-hg];exact h1) h2 b2 o2 T2 (by rw[<-hg];exact h3)⟩
theorem Ah.congr{μ':AW}{H1 H' H1':AA}(h:Ah Z H μ' H')(h1:∀b,b < H.next->Z b=none->H1.get b=H.get b)(h2:∀b,b < H.next->Z b=none->H1'.get b=H'.get b)(n1:H1.next=H.next)(n2:H1'.next=H'.next):Ah Z H1 μ' H1':=
 ⟨h.le,by rw[n1,n2];exact h.next,fun b hb hm=>by
  obtain⟨e1,e2⟩:=h.ghost b (by rw[<-n1];exact hb) hm;have hb':b < H.next:=by rw[<-n1];exact hb
  exact⟨e1,by rw[h2 b hb' hm,h1 b hb' hm];exact e2⟩⟩
theorem GY{k:EK}{l:List (EK.C k)}{ro:Bool}{b j n c:Nat}{x':Value}(h:AH base W0 Z H W)(hb:H.get b=some (.vec k l ro))(hx:AF Z (.slice (some ⟨b,0,some j⟩) n c) x'):
 (AF Z (.slice (some ⟨b,j * k.length,none⟩) n c) x'/\(∀T,Z b=some T->T.r≠0)/\(0:Nat)=0)\/((0:Nat)=0/\n=0/\(c=0\/(AT<=c/\c - AT=0))/\∃(T:BQ) (a:Option (Nat × Nat)),Z b=some T/\x'= .slice (a.map fun p=>⟨p.1,p.2,none⟩) 0 0):=by
 cases hx with
 | Bd _ _ _ _ cap' o' T hm hc ho hr=>
  have he:=h.elem hb hm;rw[he]at hc ho;exact .inl ⟨.slice b _ _ _ _ _ T hm hc ho,fun T' hT'=>by rw[hm]at hT';cases hT';exact hr,rfl⟩
 | Dz _ _ _ T a hm hc=>exact .inr ⟨rfl,rfl,hc,T,a,hm,rfl⟩
theorem Wm{k:EK}{b j n c:Nat}{x':Value}(hk0:k.length≠0)(hcu:AT<=c)(hk:∀T,Z b=some T->T.e=k.length)(hx:AF Z (.slice (some ⟨b,j * k.length,none⟩) n c) x'):
 AF Z (.slice (some ⟨b,0,some j⟩) n c) x':=by
 generalize hq:j * k.length=q at hx;cases hx with
 | slice _ _ _ _ cap' o' T hm hc ho=>
  have he:=hk T hm;rw[<-hq,<-he]at hc ho
  by_cases hr:T.r=0
  .rcases hc with⟨c1,_⟩ | ⟨_,c2,c3,c4,c5⟩
   .omega
   .have h0:cap'=0:=by
     rcases AB4 cap' with h | h
     .exact h
     .have:1 * T.e<=cap' * T.e:=AA9 _ h;omega
    subst h0;obtain rfl:n=0:=by omega
    exact .Dz b j c T (some (T.c,o')) hm (.inr ⟨hcu,by omega⟩)
  .exact .Bd b _ _ _ _ _ T hm hc ho hr
theorem VX{k:EK}{b j n c:Nat}{x':Value}(hnr:∀T,Z b=some T->T.r≠0)(hk:∀T,Z b=some T->T.e=k.length)(hx:AF Z (.slice (some ⟨b,j * k.length,none⟩) n c) x'):
 AF Z (.slice (some ⟨b,0,some j⟩) n c) x':=by
 generalize hq:j * k.length=q at hx;cases hx with
 | slice _ _ _ _ cap' o' T hm hc ho=>
  have he:=hk T hm;rw[<-hq,<-he]at hc ho;exact .Bd b _ _ _ _ _ T hm hc ho (hnr T hm)
theorem Zy{k:EK}{b j o q:Nat}{x':Value}(hk:∀T,Z b=some T->T.e=k.length)(hlo:o < AT)(hq:q=j * k.length+o)(hx:AF Z (.pointer (some ⟨b,q,none⟩)) x'):AF Z (.pointer (some ⟨b,o,some j⟩)) x':=by
 cases hx with
 | ptr _ _ T hm=>
  have he:=hk T hm;rw[hq,<-he];exact .HV b o j T hm hlo
theorem ab{k:EK}{l:List (EK.C k)}{ro:Bool}{b j o:Nat}{x':Value}(h:AH base W0 Z H W)(hlo:o < AT)(hb:H.get b=some (.vec k l ro))(hx:AF Z (.pointer (some ⟨b,o,some j⟩)) x'):AF Z (.pointer (some ⟨b,j * k.length+o,none⟩)) x':=by
 cases hx with
 | Hn _ _ _ _ _ _ _ e=>exact absurd hlo (by rw[e];exact ABY _)
 | HV _ _ _ T hm=>
  rw[h.elem hb hm];exact .ptr b _ T hm
theorem A3{c:Bool}{a:VT}{r:Value × AA}(h:(VT.test c a .fail).run=some r):c=true/\a.run=some r:=by
 cases c
 .cases h
 .exact⟨rfl,h⟩
theorem BC{v v2:Value}{H H2:AA}(h:(VT.ret v H).run=some (v2,H2)):v2=v/\H2=H:=by cases h;exact⟨rfl,rfl⟩
theorem XM(h:AH base W0 Z H W){t:TypeId}{b o i:Nat}(hlo:o < AT){a' v:Value}{H':AA}(ha:AF Z (.pointer (some ⟨b,o,some i⟩)) a')(hi:(Ij P t b o i H).run=some (v,H')):
 H'=H/\∃v',(Instr.loadAt t a').run P W= .ok v' W/\AF Z v v':=by
 have key:H'=H/\aX P t b o i H=some v:=by
  unfold Ij at hi;unfold aX;split at hi
  .rename_i k l ro hb;simp only[hb];split at hi
   .rename_i d n hd hn;simp only[hd,hn];cases hon:Nat.ble (o+n) k.length
    .simp[hon,VT.run]at hi
    .simp only[hon,AAO]at hi ⊢;cases hag:Ej d
     .simp only[hag,AAR]at hi ⊢;split at hi
      .rename_i v0 hv0;cases hsl:Wk d
       .simp only[hsl,AAR]at hi;obtain⟨h1,h2⟩:=A3 hi;obtain⟨rfl,rfl⟩:=BC h2;simp only[h1,AAO,hv0,ACF]
       .simp only[hsl,AAO]at hi;obtain⟨h1,h2⟩:=A3 hi;obtain⟨rfl,rfl⟩:=BC h2;simp only[AAQ]at h1;simp only[h1.1,AAO,hv0,Zu h1.2,ACF]
      .cases hi
     .simp only[hag,AAO]at hi ⊢;obtain⟨h1,h2⟩:=A3 hi;obtain⟨rfl,rfl⟩:=BC h2;simp only[h1,AAO,ACF]
   .cases hi
  .cases hi
 exact⟨key.1,cv h hlo ha key.2⟩
theorem W8(k:EK)(l:List (EK.C k))(i o:Nat)(c:AL)(e:EK.C k)(hi:i < l.length)(ho:o+c.length<=k.length)(he:EK.enc k e=Be (EK.enc k (l.getD i (EK.BJ k))) o c):
 Be (Ac k l) (i * k.length+o) c=Ac k (l.set i e):=by
 have h1:l=l.take i++(l.getD i (EK.BJ k))::l.drop (i+1):=by
  have:l.getD i (EK.BJ k)=l[i]:=by rw[AAX,AAU hi];rfl
  rw[this];simp
 have h2:l.set i e=l.take i++e::l.drop (i+1):=by rw[List.set_eq_take_append_cons_drop,AAZ hi]
 have hl:(Ac k (l.take i)).length=i * k.length:=by rw[A7,AAh,ABX (by omega)]
 have hx:(EK.enc k (l.getD i (EK.BJ k))).length=k.length:=EK.C0 _ _;rw[h2,C5,D3,he]
 conv=>lhs;rw[h1,C5,D3]
 generalize hA:Ac k (l.take i)=A at hl ⊢;generalize hB:EK.enc k (l.getD i (EK.BJ k))=B at hx ⊢;generalize Ac k (l.drop (i+1))=C;show(A++(B++C)).take (i * k.length+o)++(c++(A++(B++C)).drop (i * k.length+o+c.length))=A++((B.take o++(c++B.drop (o+c.length)))++C);rw[<-hl,ABH,List.take_length_add_append,List.drop_length_add_append,AA0 (by omega),AB0 (by omega)];simp
theorem UP(h:AH base W0 Z H W){t:TypeId}{b o i:Nat}(hlo:o < AT){a' x x' v:Value}{H':AA}(ha:AF Z (.pointer (some ⟨b,o,some i⟩)) a')(hx:AF Z x x')(hi:(Rb P t b o i x H).run=some (v,H')):
 v=Go.undef/\∃W',(Instr.storeAt t a' x').run P W= .ok () W'/\AH base W0 Z H' W'/\Ah Z H Z H':=by
 unfold Rb at hi;split at hi
 .rename_i k l hb;split at hi
  .rename_i n hn;cases hc:(Nat.beq x.cells.toList.length n&&x.cells.toList.all Bc&&Nat.ble (o+x.cells.toList.length) k.length)
   .simp only[hc,AAR]at hi;cases hi
   .simp only[hc,AAO]at hi;simp only[AAQ]at hc;obtain⟨⟨c1,c2⟩,c3⟩:=hc;have c3':=VC c3;split at hi
    .rename_i e he;obtain⟨h1,h2⟩:=A3 hi;obtain⟨rfl,rfl⟩:=BC h2;have h1:i < l.length:=VC h1;have hdv:=h.Lq hb fun T _=>QC (by omega)
     have hg:(H.put b (.cells (Ac k l) k.length false)).get b=some (.cells (Ac k l) k.length false):=by rw[AA.AQ,AAZ rfl]
     have hT:∃T,Z b=some T:=by cases ha with | HV _ _ _ T hm=>exact⟨T,hm⟩ | Hn _ _ _ T _ hm=>exact⟨T,hm⟩
     have hlen:i * k.length+o+x.cells.toList.length<=(Ac k l).length:=by
      rw[A7];have:(i+1) * k.length<=l.length * k.length:=AA9 _ h1;rw[ACC]at this;omega
     have hs:Rp P t (.pointer (some ⟨b,i * k.length+o,none⟩)) x (H.put b (.cells (Ac k l) k.length false))=
      some ((H.put b (.cells (Ac k l) k.length false)).put b (.cells (Ac k (l.set i e)) k.length false)):=by
      unfold Rp;simp only[hg,hn,c1,c2,AAS hlen,AC8,AAO];rw[W8 k l i o _ e h1 c3' (EK.Ii _ _ _ he)]
     obtain⟨W',r1,r2,r3⟩:=Ss (P:=P) hdv (ab h hlo hb ha) hx hs;refine⟨rfl,W',r1,?_,?_⟩
     .have:=r2.JN (b:=b) (k:=k) (l:=l.set i e) (ro:=false) (by rw[AA.AQ,AAZ rfl]);refine this.congr (fun j=>?_) rfl;simp only[AA.AQ];split<;>rfl
     .obtain⟨T,hT⟩:=hT;refine r3.congr (fun j _ hj=>?_) (fun j _ hj=>?_) rfl rfl
      .rw[AA.AQ,AAW];rintro rfl;rw[hT]at hj;cases hj
      .simp only[AA.AQ];have:j≠b:=by rintro rfl;rw[hT]at hj;cases hj
       simp[this]
    .cases hi
  .cases hi
 .cases hi
theorem Me{m:Int}(h:0<=m):m=Int.ofNat m.toNat:=by
 cases m with
 | ofNat n=>rfl
 | negSucc n=>exact absurd h (by omega)
theorem O6(h:AH base W0 Z H W){t:TypeId}{b j n c:Nat}{x' ix ix' v:Value}{H':AA}(hx:AF Z (.slice (some ⟨b,0,some j⟩) n c) x')(hix:AF Z ix ix')(hi:(GC P t b j n ix H).run=some (v,H')):
 H'=H/\∃v',(Instr.indexAt t x' ix').run P W= .ok v' W/\AF Z v v':=by
 unfold GC at hi;split at hi
 .rename_i kd m;split at hi
  .rename_i e k l ro hu hb;split at hi
   .rename_i sz hsz;cases hk:Nat.beq sz k.length
    .simp only[hk,AAR]at hi;cases hi
    .simp only[hk,AAO]at hi;obtain⟨h1,h2⟩:=A3 hi;obtain⟨rfl,rfl⟩:=BC h2;simp only[AAQ,AAl]at h1;have hk:=AAP hk;subst hk;have hm:=Me h1.1;refine⟨rfl,?_⟩;rw[hm]at hix;rcases GY h hb hx with⟨hx,_,_⟩ | ⟨_,hn0,_⟩
     rotate_left
     .have h2:m.toNat < n:=VC h1.2;omega
     obtain⟨v',r1,r2⟩:=Gy (P:=P) (W:=W) (t:=t) hx hix (v:= .pointer (some ⟨b,j * k.length+m.toNat * k.length,none⟩)) (by
      unfold Gm;simp only[OK,hu,hsz,h1.2,AAO])
     refine⟨v',r1,Zy (k:=k) (fun T hT=>h.elem hb hT) (by unfold AT;decide) (by rw[ABj,AB6]) r2⟩
   .cases hi
  .cases hi
 .cases hi
theorem QQ(h:AH base W0 Z H W){t:TypeId}{b j:Nat}{x' ix ix' v:Value}{H':AA}(hx:AF Z (.pointer (some ⟨b,0,some j⟩)) x')(hix:AF Z ix ix')(hi:(Gi P t b j ix H).run=some (v,H')):
 H'=H/\∃v',(Instr.indexAt t x' ix').run P W= .ok v' W/\AF Z v v':=by
 unfold Gi at hi;split at hi
 .rename_i kd m;split at hi
  .rename_i n e k l ro hu hb;split at hi
   .rename_i sz hsz;cases hk:Nat.beq sz k.length
    .simp only[hk,AAR]at hi;cases hi
    .simp only[hk,AAO]at hi;obtain⟨h1,h2⟩:=A3 hi;obtain⟨rfl,rfl⟩:=BC h2;simp only[AAQ,AAl]at h1;have hk:=AAP hk;subst hk;have hm:=Me h1.1;refine⟨rfl,?_⟩;rw[hm]at hix;have hx:=ab h (by unfold AT;decide) hb hx;obtain⟨v',r1,r2⟩:=Gy (P:=P) (W:=W) (t:=t) hx hix (v:= .pointer (some ⟨b,j * k.length+0+m.toNat * k.length,none⟩)) (by
      unfold Gm;simp only[OK,hu,hsz,h1.2,AAO])
     refine⟨v',r1,Zy (k:=k) (fun T hT=>h.elem hb hT) (by unfold AT;decide) (by rw[ABj];omega) r2⟩
   .cases hi
  .cases hi
 .cases hi
theorem Na(h:AH base W0 Z H W){s:TypeId}{b o i k:Nat}(hlo:o < AT){x' v:Value}{H':AA}(hx:AF Z (.pointer (some ⟨b,o,some i⟩)) x')(hi:(Fa P s b o i k H).run=some (v,H')):
 H'=H/\∃v',(Instr.fieldAt s x' k).run P W= .ok v' W/\AF Z v v':=by
 unfold Fa at hi;split at hi
 .rename_i fields hu;split at hi
  .rename_i f hf;split at hi
   .rename_i n hn;cases hz:Nat.beq n 0
    .simp only[hz,AAR]at hi;obtain⟨hlo2,hi⟩:=A3 hi;obtain⟨rfl,rfl⟩:=BC hi;refine⟨rfl,?_⟩;cases hx with
     | Hn _ _ _ _ _ _ _ e=>exact absurd hlo (by rw[e];exact ABY _)
     | HV _ _ _ T hm=>
      obtain⟨v',r1,r2⟩:=Ls (P:=P) (W:=W) (s:=s) (k:=k) (AF.ptr b (i * T.e+o) T hm) (v:= .pointer (some ⟨b,i * T.e+o+f.offset,none⟩)) (by
       unfold Jm;simp only[hu,hf,hn,hz,AAR])
      refine⟨v',r1,?_⟩;cases r2 with
      | ptr _ _ T2 hm2=>
       rw[hm]at hm2;cases hm2
       rw[ABH (i * T.e)];exact .HV b _ i T hm (VC hlo2)
    .simp only[hz,AAO]at hi;cases hi
   .cases hi
  .cases hi
 .cases hi
theorem ZP(h:AH base W0 Z H W){t:TypeId}{b o i:Nat}{a' v:Value}{H':AA}(ha:AF Z (.pointer (some ⟨b,o,some i⟩)) a')(hi:(It P t b o i H).run=some (v,H')):
 H'=H/\∃v',(Instr.loadAt t a').run P W= .ok v' W/\AF Z v v':=XM h (VC (A3 hi).1) ha (A3 hi).2
theorem Vx(h:AH base W0 Z H W){t:TypeId}{b o i:Nat}{a' x x' v:Value}{H':AA}(ha:AF Z (.pointer (some ⟨b,o,some i⟩)) a')(hx:AF Z x x')(hi:(aH P t b o i x H).run=some (v,H')):
 v=Go.undef/\∃W',(Instr.storeAt t a' x').run P W= .ok () W'/\AH base W0 Z H' W'/\Ah Z H Z H':=UP h (VC (A3 hi).1) ha hx (A3 hi).2
theorem O8(h:AH base W0 Z H W){s:TypeId}{b o i k:Nat}{x' v:Value}{H':AA}(hx:AF Z (.pointer (some ⟨b,o,some i⟩)) x')(hi:(Ih P s b o i k H).run=some (v,H')):
 H'=H/\∃v',(Instr.fieldAt s x' k).run P W= .ok v' W/\AF Z v v':=Na h (VC (A3 hi).1) hx (A3 hi).2
end
section
variable {P:Program}{base:Env}{W0:World}{Z:AW}{H:AA}{W:World}
theorem cA{T:BQ}{o n cap':Nat}(h:Jn T o n AT cap'):Jn T o n (AT+n) cap':=by
 rcases h with⟨h,_⟩ | ⟨_,_,h2,h3,h4⟩
 .omega
 .exact .inr ⟨by omega,by omega,h2,h3,h4⟩
theorem Oj{T:BQ}{o n m cap':Nat}(h:Jn T o n (AT+m) cap'):Jn T o n AT cap':=by
 rcases h with⟨h,_⟩ | ⟨_,_,h2,h3,h4⟩
 .omega
 .exact .inr ⟨by omega,by omega,h2,h3,h4⟩
theorem VD{b o n:Nat}{x':Value}(h:AF Z (.slice (some ⟨b,o,none⟩) n AT) x'):AF Z (.slice (some ⟨b,o,none⟩) n (AT+n)) x':=by
 cases h with
 | slice _ _ _ _ cap' o' T hm hc ho=>exact .slice b o n _ cap' o' T hm (cA hc) ho
theorem MD{b o n m:Nat}{x':Value}(h:AF Z (.slice (some ⟨b,o,none⟩) n (AT+m)) x'):AF Z (.slice (some ⟨b,o,none⟩) n AT) x':=by
 cases h with
 | slice _ _ _ _ cap' o' T hm hc ho=>exact .slice b o n _ cap' o' T hm (Oj hc) ho
theorem Ns{v:Value}{kd:IntKind}{m:Int}{y:Nat}(hv:v= .int kd m)(h0:0<=m)(hy:m.toNat<=y):JO v y=some m.toNat:=by
 subst hv;rw[Me h0];unfold JO;simp only;rw[show Nat.ble (Int.toNat m) y=true from AAS hy];rfl
theorem MB{lo hi:DJ}{l h:Int}{n:Nat}(h1:LV lo 0=some l)(h2:LV hi n=some h)(a1:0<=h)(a2:h.toNat<=n)(a3:0<=l)(a4:l.toNat<=h.toNat):FD n n lo hi none=some (l.toNat,h.toNat,n):=by
 cases hi with
 | none=>
  simp only[LV,AAN]at h2;subst h2
  cases lo with
  | none=>simp only[LV,AAN]at h1;subst h1;rfl
  | some v=>
   cases v<;>simp only[LV,AAN,reduceCtorEq]at h1
   subst h1;simp only[FD,AAv];rw[Ns rfl a3 (y:=n) (by simpa using a4)];rfl
 | some v=>
  cases v<;>simp only[LV,AAN,reduceCtorEq]at h2
  subst h2;simp only[FD,AAv];rw[Ns rfl a1 a2];cases lo with
  | none=>simp only[LV,AAN]at h1;subst h1;rfl
  | some v=>
   cases v<;>simp only[LV,AAN,reduceCtorEq]at h1
   subst h1;simp only[AAv];rw[Ns rfl a3 a4];rfl
theorem P2(h:AH base W0 Z H W){t:TypeId}{s:Ag}{x' v:Value}{lo lo' hi hi':DJ}{H':AA}(hx:AF Z (.string s) x')(hlo:Fx Z lo lo')(hhi:Fx Z hi hi')(hi0:(Gx P t s lo hi H).run=some (v,H')):
 H'=H/\∃v',(Instr.sliceAt t x' lo' hi' none).run P W= .ok v' W/\AF Z v v':=by
 unfold Gx at hi0;split at hi0
 .rename_i l hh hu h1 h2;obtain⟨c,hr⟩:=A3 hi0;obtain⟨rfl,rfl⟩:=BC hr;simp only[AAQ,AAl]at c;obtain⟨⟨⟨c1,c2⟩,c3⟩,c4⟩:=c;refine⟨rfl,K1 h hx hlo hhi .none ?_⟩;unfold Jd;simp only[hu];rw[MB h1 h2 c1 (VC c2) c3 (VC c4)]
 .cases hi0
theorem Rd{t e:TypeId}{sz:Nat}(a:Option (Nat × Nat)){lo lo' hi hi' mx mx':DJ}(hu:P.underlying t=some (.slice e))(hsz:D6 P e=some sz)(hlo:Fx Z lo lo')(hhi:Fx Z hi hi')(hmx:Fx Z mx mx')(hb:FD 0 0 lo hi mx=some (0,0,0)):
 (Instr.sliceAt t (.slice (a.map fun p=>⟨p.1,p.2,none⟩) 0 0) lo' hi' mx').run P W= .ok (.slice (a.map fun p=>⟨p.1,p.2,none⟩) 0 0) W:=by
 obtain⟨m',hrun,_,hmm,_⟩:=IU (P:=P) (W:=W) true hlo hhi hmx hb (AAT _);have:m'=0:=by rcases hmm with⟨_,h,_⟩ | ⟨_,h1,h2⟩<;>omega
 subst this;simp[Instr.sliceAt,Instr.slice,run_underlying hu,hrun,BZ hsz]
theorem Vo(h:AH base W0 Z H W){t:TypeId}{b j n c:Nat}{x' v:Value}{lo lo' hi hi':DJ}{H':AA}(hx:AF Z (.slice (some ⟨b,0,some j⟩) n c) x')(hlo:Fx Z lo lo')(hhi:Fx Z hi hi')(hi0:(Kv P t b j n c lo hi H).run=some (v,H')):
 H'=H/\∃v',(Instr.sliceAt t x' lo' hi' none).run P W= .ok v' W/\AF Z v v':=by
 unfold Kv at hi0;split at hi0
 .rename_i e k l0 ro l hh hu hb h1 h2;split at hi0
  .rename_i sz hsz;cases hk:(Nat.beq sz k.length&&Nat.beq c AT)
   .simp only[hk,AAR]at hi0;cases hi0
   .simp only[hk,AAO]at hi0;simp only[AAQ]at hk;have e1:=AAP hk.1;have e2:=AAP hk.2;subst e1 e2;obtain⟨c,hr⟩:=A3 hi0;obtain⟨rfl,hH'⟩:=BC hr;simp only[AAQ,AAl]at c;obtain⟨⟨⟨c1,c2⟩,c3⟩,c4⟩:=c;have c2:=VC c2;have c4:=VC c4;refine⟨hH',?_⟩;have hT:=fun T (hT:Z b=some T)=>h.elem hb hT
    rcases GY h hb hx with⟨hx1,hnr,_⟩ | ⟨_,rfl,hcap,T,a,hm,rfl⟩
    rotate_left
    .have hl0:l.toNat=0:=by omega
     have hh0:hh.toNat=0:=by omega
     refine⟨_,Rd a hu hsz hlo hhi .none ?_,?_⟩
     .rw[MB h1 h2 c1 c2 c3 c4,hl0,hh0]
     .rw[hl0,hh0];exact .Dz b _ _ T a hm hcap
    have hdv:=h.Lq hb fun T hT hv=>hnr T hT hv.2.1
    have hg:(H.put b (.cells (Ac k l0) k.length ro)).get b=some (.cells (Ac k l0) k.length ro):=by rw[AA.AQ,AAZ rfl]
    obtain⟨v',r1,r2⟩:=K1 (P:=P) hdv (t:=t) (v:= .slice (some ⟨b,j * k.length+l.toNat * k.length,none⟩) (hh.toNat - l.toNat) (AT+(n - l.toNat))) (VD hx1) hlo hhi .none (by
     unfold Jd;simp only[hu,hsz,hg];have hlt:Nat.blt (AT+n) AT=false:=by
      cases hq:Nat.blt (AT+n) AT
      .rfl
      .have:AT+n < AT:=VC hq;omega
     simp only[hlt,AAR];unfold Ie;simp only[hlt,AAR];have hsub:AT+n - AT=n:=by omega
     rw[hsub,MB h1 h2 c1 c2 c3 c4];have hle:Nat.ble l.toNat n=true:=AAS (by omega);simp only[hle,AAu,AC8,AAO])
    refine⟨v',r1,?_⟩;rw[<-ABj]at r2;exact VX hnr hT (MD r2)
  .cases hi0
 .cases hi0
theorem Oq{lo:DJ}{l h m:Int}{kh km:IntKind}{n:Nat}(h1:LV lo 0=some l)(b1:0<=m)(b2:m.toNat<=n)(a1:0<=h)(a2:h.toNat<=m.toNat)(a3:0<=l)(a4:l.toNat<=h.toNat):
 FD n n lo (some (.int kh h)) (some (.int km m))=some (l.toNat,h.toNat,m.toNat):=by
 unfold FD;simp only[Ns rfl b1 b2,AAv,Ns rfl a1 a2];cases lo with
 | none=>simp only[LV,AAN]at h1;subst h1;rfl
 | some v=>
  cases v<;>simp only[LV,AAN,reduceCtorEq]at h1
  subst h1;simp only[Ns rfl a3 a4,AAv]
theorem UR(h:AH base W0 Z H W){t:TypeId}{b j n c:Nat}{x' v mx mx':Value}{lo lo' hi hi':DJ}{H':AA}(hx:AF Z (.slice (some ⟨b,0,some j⟩) n c) x')(hlo:Fx Z lo lo')(hhi:Fx Z hi hi')(hmx:AF Z mx mx')(hi0:(I6 P t b j n c lo hi mx H).run=some (v,H')):
 H'=H/\∃v',(Instr.sliceAt t x' lo' hi' (some mx')).run P W= .ok v' W/\AF Z v v':=by
 unfold I6 at hi0;split at hi0
 .rename_i e k l0 ro l kh hh km m hu hb h1;split at hi0
  .rename_i sz hsz;cases hk:(Nat.beq sz k.length&&Nat.beq c AT)
   .simp only[hk,AAR]at hi0;cases hi0
   .simp only[hk,AAO]at hi0;simp only[AAQ]at hk;have e1:=AAP hk.1;have e2:=AAP hk.2;subst e1 e2;obtain⟨c,hr⟩:=A3 hi0;obtain⟨rfl,hH'⟩:=BC hr;simp only[AAQ,AAl]at c;obtain⟨⟨⟨⟨⟨⟨d1,d2⟩,d3⟩,c1⟩,c2⟩,c3⟩,c4⟩:=c;have d2:=VC d2;have c2:=VC c2;have c4:=VC c4;refine⟨hH',?_⟩;rcases GY h hb hx with⟨hx1,hnr,_⟩ | ⟨_,rfl,hcap,T,a,hm,rfl⟩
    rotate_left
    .have hl0:l.toNat=0:=by omega
     have hh0:hh.toNat=0:=by omega
     have hm0:m.toNat=0:=by omega
     refine⟨_,Rd a hu hsz hlo hhi (.some hmx) ?_,?_⟩
     .rw[Oq h1 d1 d2 c1 c2 c3 c4,hl0,hh0,hm0]
     .rw[hl0,hh0];exact .Dz b _ _ T a hm hcap
    have hdv:=h.Lq hb fun T hT hv=>hnr T hT hv.2.1
    have hg:(H.put b (.cells (Ac k l0) k.length ro)).get b=some (.cells (Ac k l0) k.length ro):=by rw[AA.AQ,AAZ rfl]
    obtain⟨v',r1,r2⟩:=K1 (P:=P) hdv (t:=t) (v:= .slice (some ⟨b,bif Nat.beq m.toNat l.toNat then j * k.length else j * k.length+l.toNat * k.length,none⟩) (hh.toNat - l.toNat) (m.toNat - l.toNat)) (VD hx1) hlo hhi (.some hmx) (by
     unfold Jd;simp only[hu,hsz,hg];have hlt:Nat.blt (AT+n) AT=false:=by
      cases hq:Nat.blt (AT+n) AT
      .rfl
      .have:AT+n < AT:=VC hq;omega
     simp only[hlt,AAR];unfold Ie;simp only[hlt,AAR];have hsub:AT+n - AT=n:=by omega
     rw[hsub,Oq h1 d1 d2 c1 c2 c3 c4];simp only[d3,AAO])
    refine⟨v',r1,?_⟩;have hx2:=hx1;generalize hq:j * k.length=q at hx2;cases hx2 with
    | slice _ _ _ _ cap0 o0 T hm hc ho=>
     have hT:=h.elem hb hm;have hr:=hnr T hm;rw[<-hq,<-hT]at hc ho;generalize hX:(bif Nat.beq m.toNat l.toNat then j * k.length else j * k.length+l.toNat * k.length)=X at r2;cases r2 with
     | slice _ _ _ _ cap2 o2 T2 hm2 hc2 ho2=>
      rw[hm]at hm2;cases hm2
      have hcap2:cap2=m.toNat - l.toNat:=by
       rcases hc2 with⟨_,e⟩ | ⟨e,_⟩
       .exact e
       .exfalso;have:m.toNat < AT:=VC d3;omega
      subst hcap2;rcases hc with⟨q,_⟩ | ⟨_,_,q1,q2,q3⟩
      .omega
      .refine .Bd b _ _ _ _ o2 T hm (.inr ⟨AAT _,by omega,by omega,?_,?_⟩) ?_ hr
       .have e1:(j+l.toNat) * T.e+(m.toNat - l.toNat) * T.e=j * T.e+m.toNat * T.e:=by rw[<-ABj,<-ABj];congr 1;omega
        have e2:m.toNat * T.e<=cap0 * T.e:=AA9 _ (by omega);omega
       .rcases q3 with q3 | q3
        .exact .inl q3
        .exact .inr (by omega)
       .rcases ho2 with ho2 | ⟨z1,z2⟩
        .cases hml:Nat.beq m.toNat l.toNat
         .rw[hml]at hX;simp only[AAR]at hX;refine .inl ?_;rw[ho2,<-hX,hT,ABj]
         .have:=AAP hml;exact .inr ⟨by omega,by omega⟩
        .exact .inr ⟨z1,z2⟩
  .cases hi0
 .cases hi0
theorem EK.X1{k:EK}{l:AL}{x:EK.C k}(h:EK.dec k l=some x):l.length=k.length:=by
 rw[<-EK.Ii k l x h,EK.C0]
theorem KZ(k:EK)(_hk:k.length≠0):∀(n:Nat)(cs:AL)(l:List (EK.C k)),Rg k n cs=some l->Ac k l=cs.take (n * k.length)/\l.length=n/\n * k.length<=cs.length:=by
 intro n;induction n with
 | zero=>intro cs l h;simp only[Rg,AAN]at h;subst h;simp[Ac]
 | succ n ih=>
  intro cs l h;simp only[Rg]at h;split at h
  .rename_i x l2 h1 h2;cases h
   obtain⟨i1,i2,i3⟩:=ih _ _ h2;have hx:=EK.Ii _ _ _ h1;have hl:=EK.X1 h1;rw[AAh]at hl;rw[AAo]at i3;have e1:(n+1) * k.length=k.length+n * k.length:=by rw[ACC];omega
   refine⟨?_,by simp[i2],by omega⟩;rw[D3,hx,i1,e1,List.take_add]
  .cases h
theorem Ub(k:EK)(hk:k.all SK.plain=true)(l:List (EK.C k)):(Ac k l).all Bc=true:=by
 have h1:∀(k:EK),k.all SK.plain=true->∀x:EK.C k,(EK.enc k x).all Bc=true:=by
  intro k;induction k with
  | nil=>intro _ _;rfl
  | cons s r ih=>
   intro hk x;simp only[ABN,AAQ]at hk;have hs:∀y:s.C,Bc (s.enc y)=true:=by
    intro y;cases s<;>first | rfl | (simp[SK.plain]at hk)
   cases r with
   | nil=>simp only[EK.enc,ABN,List.all_nil,AC8];exact hs x
   | cons t r=>simp only[EK.enc,ABN,AAQ];exact⟨hs _,ih hk.2 _⟩
 induction l with
 | nil=>rfl
 | cons x l ih=>rw[D3,List.all_append,h1 k hk x,ih];rfl
theorem WH(s:Ag):Ac Ib (Ci s)=s.data.toList.map fun b=>Value.int .u8 b.toNat:=by
 unfold Ci;induction s.data.toList with
 | nil=>rfl
 | cons a l ih=>
  have h1:Ac Ib (((a.toNat:Int)::l.map (fun b=>(b.toNat:Int))):Au)=[Value.int .u8 a.toNat]++Ac Ib (l.map fun b=>(b.toNat:Int)):=rfl;exact h1.trans (congrArg ([Value.int .u8 a.toNat]++·) ih)
theorem FR(s:Ag):(Ci s).length=s.size:=by
 unfold Ci;rw[ABI,AAy];rfl
theorem W7{sz n:Nat}{x:Value}{l:AL}(h:Ek sz x H=some (n,l)):l.length=n * sz:=by
 unfold Ek at h;split at h
 .rename_i m c;cases hb:Nat.beq m 0
  .simp[hb]at h
  .simp only[hb,AAO,AAN,AAm]at h;obtain⟨rfl,rfl⟩:=h;simp
 .rename_i b off m c;cases hb:Nat.beq (m * sz) 0
  .simp only[hb,AAR]at h;split at h
   .rename_i cs e ro hg;cases hl:Nat.beq ((cs.drop off).take (m * sz)).length (m * sz)
    .rw[hl]at h;cases h
    .rw[hl]at h;cases h;exact AAP hl
   .cases h
  .simp only[hb,AAO,AAN,AAm]at h;obtain⟨rfl,rfl⟩:=h;rw[AAP hb];rfl
 .rename_i s;cases hb:Nat.beq sz 1
  .simp[hb]at h
  .simp only[hb,AAO,AAN,AAm]at h;obtain⟨rfl,rfl⟩:=h;rw[AAP hb,ABI,AAy,ACN];rfl
 .cases h
theorem eE(h:AH base W0 Z H W){k:EK}(hk:k.length≠0){x x':Value}{n:Nat}{new:List (EK.C k)}(hx:AF Z x x')(hs:uZ k x H=some (true,n,new)):
 (∃Hd fx,AH base W0 Z Hd W/\AF Z fx x'/\Ek k.length fx Hd=some (n,Ac k new)/\new.length=n)\/(n=0/\new=[]/\∃a:Option (Nat × Nat),x'= .slice (a.map fun p=>⟨p.1,p.2,none⟩) 0 0):=by
 unfold uZ at hs;split at hs
 .rename_i m c;cases hm:Nat.beq m 0
  .simp[hm]at hs
  .simp only[hm,AAO,AAN,AAm,ACo]at hs;obtain⟨rfl,rfl⟩:=hs;refine .inl ⟨H,_,h,hx,?_,rfl⟩;unfold Ek;simp only[hm,AAO,gE]
 .rename_i b j m c;split at hs
  .rename_i k' l ro hb;split at hs
   .rename_i hkk;subst hkk;simp only[AAN,AAm]at hs;obtain⟨h1,rfl,rfl⟩:=hs;have h1:=VC h1;rcases GY h hb hx with⟨hx,hnr,_⟩ | ⟨_,hm0,hcap,T,a,hm,rfl⟩
    rotate_left
    .subst hm0;exact .inr ⟨rfl,by simp,a,rfl⟩
    refine .inl ⟨_,_,h.Lq hb fun T hT hv=>hnr T hT hv.2.1,hx,?_,by rw[AAh,AAo];omega⟩;have hg:(H.put b (.cells (Ac k' l) k'.length ro)).get b=some (.cells (Ac k' l) k'.length ro):=by rw[AA.AQ,AAZ rfl]
    unfold Ek;cases hz:Nat.beq (m * k'.length) 0
    .simp only[hz,AAR,hg];rw[E4,ET];have hll:(Ac k' ((l.drop j).take m)).length=m * k'.length:=by
      rw[A7,AAh,AAo,ABX (by omega)]
     rw[hll,AAu];rfl
    .simp only[hz,AAO];have hz:=AAP hz;have:m=0:=by
      rcases Nat.mul_eq_zero.1 hz with h | h
      .exact h
      .exact absurd h hk
     subst this;simp[Ac]
   .cases hs
  .cases hs
 .rename_i b o m c;split at hs
  .rename_i m2 cs hi;split at hs
   .rename_i l hl;simp only[AAN,AAm,ACo]at hs;obtain⟨rfl,rfl⟩:=hs;obtain⟨e1,e2,e3⟩:=KZ k hk _ _ _ hl;have hlen:=W7 hi;refine .inl ⟨H,_,h,hx,?_,e2⟩;rw[hi,e1,AAc (by omega)]
   .cases hs
  .cases hs
 .rename_i s;split at hs
  .simp only[AAN,AAm,ACo]at hs;obtain⟨rfl,rfl⟩:=hs;refine .inl ⟨H,_,h,hx,?_,FR s⟩;rw[WH];rfl
  .cases hs
 .cases hs
end
section
variable {P:Program}{base:Env}{W0:World}{Z:AW}{H:AA}{W:World}
theorem R0:Nat.blt 0 AT=true:=by
 unfold AT;rfl
theorem JT{bytes m:Nat}(h:Bn bytes m=true):(Nat.ble ((2 * m+192) * bytes) 281474976710656=true)/\Nat.ble m 4611686018427387904=true:=by
 unfold Bn at h;simpa only[AAQ] using h
theorem GG{Hd H1:AA}{μ1:AW}{W1:World}{k:EK}(hk0:k.length≠0){rows:List (EK.C k)}{m:Nat}{v':Value}(hr:AH base W0 μ1 (Hd.alloc (.cells (Ac k rows) k.length false)) W1)(hv:AF μ1 (.slice (some ⟨Hd.next,0,none⟩) m (AT+m)) v')(hg:∀b,b≠Hd.next->H1.get b=Hd.get b)(hn:H1.next=Hd.next):AH base W0 μ1 (H1.alloc (.vec k rows false)) W1/\AF μ1 (.slice (some ⟨H1.next,0,some 0⟩) m AT) v':=by
 have hget:(Hd.alloc (.cells (Ac k rows) k.length false)).get Hd.next=some (.cells (Ac k rows) k.length false):=by rw[AA.AN,AAZ rfl]
 have h2:=hr.JN (b:=Hd.next) (k:=k) (l:=rows) (ro:=false) hget;refine⟨h2.congr (fun b=>?_) (by show H1.next+1=Hd.next+1;rw[hn]),?_⟩
 .rw[AA.AN,AA.AQ,AA.AN,hn]
  by_cases e:b=Hd.next
  .simp[e]
  .simp[e,hg b e]
 .rw[hn];have hT:∀T,μ1 Hd.next=some T->T.e=k.length:=fun T hT=>h2.elem (by rw[AA.AQ,AAZ rfl]) hT
  exact Wm (j:=0) hk0 (AAT _) hT (by rw[ABy];exact MD hv)
theorem XN(h:AH base W0 Z H W){argTypes:Array TypeId}{ty e:TypeId}{i:TypeInfo}{zz x':Value}{n:Nat}{new:AL}(hsrc:MJ P Z W argTypes ty e i zz x' n new)(hzsz:zz.cells.size=i.size)(hnl:new.length=n * i.size)(a:Option (Nat × Nat))(hn:n≠0)(hbig:(2 * n+192) * i.bytes<=281474976710656)(hbig2:n<=4611686018427387904):
  ∃μ' v' W',(Builtin.append_ argTypes ty #[.slice (a.map fun p=>⟨p.1,p.2,none⟩) 0 0,x']).run P W= .ok v' W'/\AH base W0 μ' (H.alloc (.cells new i.size false)) W'/\
   AF μ' (.slice (some ⟨H.next,0,none⟩) n (AT+n)) v'/\Ah Z H μ' (H.alloc (.cells new i.size false)):=by
 obtain⟨new2,m1,hgr⟩:=hsrc.fy;obtain⟨newCap,g1,g1b,g2⟩:=hgr (a.map fun p=>⟨p.1,p.2,none⟩) 0 0 [] (by omega) (by rw[AAj];exact hbig) (by omega) (by cases a<;>simp[Builtin.firstCells,loadCells,loadCellsFrom]);rw[AAj]at g1 g2;have hal:=(h.drawn (W.drawn+1)).alloc (T:=⟨W.heap.size,0,newCap * i.size,i.size⟩) (o:= .cells new i.size false) (o':= .cells ((#[]:BE)++new2.toArray++Builtin.zeroCells zz.cells (newCap - n)) e) rfl ?_
 .refine⟨_,_,_,g2,hal.1,E5 _ _ rfl _ _ _ (.inr ⟨by omega,by omega,g1,?_,.inr g1b⟩),hal.2⟩;show 0+newCap * i.size<=newCap * i.size;omega
 .have e2:=m1.length;refine .cells ⟨W.heap.size,0,newCap * i.size,i.size⟩ _ _ false _ e 0 0 rfl ?_ ?_ (fun _ j _=>by omega)
  .simp only[AA5,ABW,AA2];rw[ABC,AA0 (by omega),AAc (by omega)];exact m1
  .simp only[AC6,ACb,E3,hzsz,AAj];rw[<-e2,hnl,ACk,AAj,<-ABj]
   congr 1
   omega
theorem TN(h:AH base W0 Z H W){argTypes:Array TypeId}{ty e:TypeId}{i:TypeInfo}{zz s s' x' v:Value}{k:EK}{c:Bool}{n:Nat}{new:List (EK.C k)}{H':AA}{t:VT}(hs:AF Z s s')(hsz:k.length=i.size)(hk0:k.length≠0)(hok:(Ac k new).all Bc=true)(hzsz:zz.cells.size=i.size)(hsrc:c=true->MJ P Z W argTypes ty e i zz x' n (Ac k new)/\new.length=n)(hi:QN k i.bytes s c n new H=some t)(hr:t.run=some (v,H')):
 ∃μ' v' W',(Builtin.append_ argTypes ty #[s',x']).run P W= .ok v' W'/\AH base W0 μ' H' W'/\AF μ' v v'/\Ah Z H μ' H':=by
 have hnl:new.length=n->(Ac k new).length=n * i.size:=fun e=>by rw[A7,e,hsz]
 unfold QN at hi;split at hi
 ·
  rename_i len cap;cases hz:(Nat.beq len 0&&Nat.beq cap 0)
  .simp only[hz,AAR,AAN]at hi;subst hi;cases hr
  .simp only[hz,AAO,AAN]at hi;simp only[AAQ]at hz;have e1:=AAP hz.1;have e2:=AAP hz.2;subst e1 e2 hi;obtain⟨rfl,hr⟩:=A3 hr;obtain⟨hsrc,hnn⟩:=hsrc rfl;cases hs
   cases hn0:Nat.beq n 0
   .have hr:(VT.test (Bn i.bytes n) (.ret (.slice (some ⟨H.next,0,some 0⟩) n AT) (H.alloc (.vec k new false))) .fail).run=some (v,H'):=by simpa [VT.run,hn0] using hr
    obtain⟨hb,hr⟩:=A3 hr;obtain⟨rfl,rfl⟩:=BC hr;obtain⟨b1,b2⟩:=JT hb;have hz1:Nat.ble (0+n) 0=false:=by
     cases hq:Nat.ble (0+n) 0
     .rfl
     .have:=VC hq;have:n=0:=by omega
      subst this;cases hn0
    have hap:I2 i.size i.bytes (.slice none 0 0) n (Ac k new) H=some (.slice (some ⟨H.next,0,none⟩) (0+n) (AT+(0+n)),H.alloc (.cells ([]++Ac k new) i.size false)):=by
     unfold I2;simp only[hn0,AAR,R0,AAO,hz1];unfold NM Ek;simp only[AAu,AAO,AAj,b1,b2,ABv]
    obtain⟨μ',v',W',r1,r2,r3,r4⟩:=HK h (.Cc 0 0) hsrc hzsz (hnl hnn) hok hap;simp only[AAj,ABC,<-hsz]at r2 r3 r4;obtain⟨g1,g2⟩:=GG hk0 (H1:=H) r2 r3 (fun _ _=>rfl) rfl;refine⟨μ',v',W',r1,g1,g2,r4.congr (fun _ _ _=>rfl) (fun b hb _=>?_) rfl rfl⟩;rw[AA.AN,AA.AN,AAW (by omega),AAW (by omega)]
   .have hr:(VT.ret (.slice none 0 0) H).run=some (v,H'):=by simpa [VT.run,hn0] using hr
    obtain⟨rfl,rfl⟩:=BC hr;have hn0:=AAP hn0;subst hn0;obtain⟨new',hn1,hinR⟩:=hsrc.yW;exact⟨Z,_,W,hinR none 0 0 W (AAT _) (fun a ha=>by cases ha) (fun _=>rfl),h,.Cc 0 0,Ah.refl _ _⟩
 ·
  rename_i b j len cap;split at hi
  .rename_i k' l hb;cases hcap:Nat.beq cap AT
   .simp only[hcap,AAR,AAN]at hi;subst hi;cases hr
   .simp only[hcap,AAO]at hi;have hcap:=AAP hcap;subst hcap;split at hi
    .rename_i hkk;subst hkk;simp only[AAN]at hi;subst hi;obtain⟨hc,hr⟩:=A3 hr;obtain⟨rfl,rfl⟩:=BC hr;simp only[AAQ]at hc;obtain⟨⟨hc1,hc2⟩,hc3⟩:=hc;have hc2:=VC hc2;obtain⟨b1,b2⟩:=JT hc3;obtain⟨hsrc,hnn⟩:=hsrc hc1;rcases GY h hb hs with⟨hs1,hnr,_⟩ | ⟨_,rfl,_,T0,a0,hm0,rfl⟩
     rotate_left
     ·
      obtain⟨d1,d2⟩:=h.del hm0;cases hn0:Nat.beq n 0
      .have hn0:n≠0:=by rintro rfl;cases hn0
       rw[AAj]at b1 b2;obtain⟨new',hn1,hinR⟩:=hsrc.yW;have hsrc2:=hsrc;obtain⟨μ',v',W',r1,r2,r3,r4⟩:=XN d1 hsrc2 hzsz (hnl hnn) a0 hn0 (VC b1) (VC b2);rw[<-hsz]at r2 r4;obtain⟨g1,g2⟩:=GG hk0 (H1:=H.del b) r2 r3 (fun _ _=>rfl) rfl;refine⟨μ',v',W',r1,by simpa using g1,by rw[AAj];exact g2,?_⟩;refine(d2.trans r4).congr (fun _ _ _=>rfl) (fun q hq hm=>?_) rfl rfl;have hq:q < H.next:=hq;rw[AA.AN,AA.AN,AAW (by show q≠H.next;omega),AAW (by show q≠H.next;omega)]
      .have hn0:=AAP hn0;subst hn0;obtain⟨new',hn1,hinR⟩:=hsrc.yW;have hnew:new=[]:=AAp hnn;subst hnew;have hnew':new'=[]:=AAp (by rw[<-hn1.length];rfl);subst hnew';obtain⟨g1,g2⟩:=d1.F3 hm0 hk0 false;refine⟨Z.ext H.next ⟨T0.c,0,0,k'.length⟩,_,W,hinR (a0.map fun p=>⟨p.1,p.2,none⟩) 0 0 W (AAT _) (fun a ha=>rfl) (fun _=>rfl),?_,?_,d2.trans ?_⟩
       .rw[ACd,ABC];exact g1
       .exact .Dz _ _ _ _ a0 (AW.AY _ _ _) (.inr ⟨AAT _,ABQ _⟩)
       .rw[ACd,ABC];exact g2
     have hdv:=h.Lq hb fun T hT hv=>hnr T hT hv.2.1
     have hg:(H.put b (.cells (Ac k' l) k'.length false)).get b=some (.cells (Ac k' l) k'.length false):=by rw[AA.AQ,AAZ rfl]
     have hT:∃T,Z b=some T:=by cases hs with | Bd _ _ _ _ _ _ T hm _ _ _=>exact⟨T,hm⟩ | Dz _ _ _ T _ hm _=>exact⟨T,hm⟩
     have hold:((Ac k' l).drop (j * k'.length)).take (len * k'.length)=Ac k' ((l.drop j).take len):=by rw[E4,ET]
     have hll:(Ac k' ((l.drop j).take len)).length=len * k'.length:=by
      rw[A7,AAh,AAo,ABX (by omega)]
     have hap:FH i.size i.bytes len n (.slice (some ⟨b,j * k'.length,none⟩) len AT) (Ac k' new) (H.put b (.cells (Ac k' l) k'.length false))=
      some (.slice (some ⟨H.next,0,none⟩) (len+n) (AT+(len+n)),((H.put b (.cells (Ac k' l) k'.length false)).del b).alloc (.cells (Ac k' ((l.drop j).take len++new)) k'.length false)):=by
      unfold FH;simp only[hg,<-hsz,hold,hll,AAu,b1,b2,ABv,AAO,C5];rfl
     obtain⟨μ',v',W',r1,r2,r3,r4⟩:=Lt hdv hs1 hsrc hzsz (hnl hnn) hok (fun a m c e=>by cases e;exact AAT _) (fun a m c e=>by cases e;rfl) hap;obtain⟨g1,g2⟩:=GG hk0 (H1:=H.del b) r2 r3 (fun q _=>by
      rw[AA.BK,AA.BK,AA.AQ]
      by_cases e:q=b<;>simp[e]) rfl
     refine⟨μ',v',W',r1,g1,g2,?_⟩;obtain⟨T,hT⟩:=hT;refine r4.congr (fun q hq hm=>?_) (fun q hq hm=>?_) rfl rfl
     .have:q≠b:=by rintro rfl;rw[hT]at hm;cases hm
      rw[AA.AQ,AAW this]
     .have:q≠b:=by rintro rfl;rw[hT]at hm;cases hm
      have hq:q < H.next:=hq;rw[AA.AN,AA.AN,AAW (by show q≠H.next;omega),AAW (by show q≠H.next;omega),AA.BK,AA.BK,AA.AQ,AAW this,AAW this,AAW this]
    .simp only[AAN]at hi;subst hi;cases hr
  .simp only[AAN]at hi;subst hi;cases hr
 ·
  rename_i b off len cap;split at hi
  .rename_i cs ee hb;split at hi
   .rename_i GM hold;obtain⟨d1,d2,d3⟩:=KZ k hk0 _ _ _ hold;rw[ABi,AC0]at d1;have hll:((cs.drop off).take (len * k.length)).length=len * k.length:=by rw[<-d1,A7,d2]
    cases hcap:Nat.blt cap AT
    .simp only[hcap,AAR]at hi;have hcapU:AT<=cap:=by
      rcases AAt cap AT with hh | hh
      .exact absurd (AAS hh) (by rw[show Nat.ble (cap+1) AT=Nat.blt cap AT from rfl,hcap];decide)
      .exact hh
     cases hee:Nat.beq ee k.length
     .simp only[hee,AAR,AAN]at hi;subst hi;cases hr
     .simp only[hee,AAO,AAN]at hi;subst hi;obtain⟨hc,hr⟩:=A3 hr;obtain⟨rfl,rfl⟩:=BC hr;simp only[AAQ]at hc;obtain⟨hc1,hc3⟩:=hc;obtain⟨b1,b2⟩:=JT hc3;obtain⟨hsrc,hnn⟩:=hsrc hc1;have hap:FH i.size i.bytes len n (.slice (some ⟨b,off,none⟩) len cap) (Ac k new) H=
       some (.slice (some ⟨H.next,0,none⟩) (len+n) (AT+(len+n)),(H.del b).alloc (.cells (Ac k (GM++new)) k.length false)):=by
       unfold FH;simp only[hb,<-hsz,hll,AAu,hee,b1,b2,ABv,AAO,C5,d1]
      obtain⟨μ',v',W',r1,r2,r3,r4⟩:=Lt h hs hsrc hzsz (hnl hnn) hok (fun a m c e=>by cases e;exact hcapU) (fun a m c e=>by cases e;rfl) hap;obtain⟨g1,g2⟩:=GG hk0 (H1:=H.del b) r2 r3 (fun _ _=>rfl) rfl;refine⟨μ',v',W',r1,g1,g2,r4.congr (fun _ _ _=>rfl) (fun q hq _=>?_) rfl rfl⟩;have hq:q < H.next:=hq;rw[AA.AN,AA.AN,AAW (by show q≠H.next;omega),AAW (by show q≠H.next;omega)]
    .simp only[hcap,AAO]at hi;cases hlc:Nat.beq len cap
     .simp only[hlc,AAR]at hi;cases hi
     .simp only[hlc,AAO,AAN]at hi;have hlc:=AAP hlc;subst hlc hi;obtain⟨rfl,hr⟩:=A3 hr;obtain⟨hsrc,hnn⟩:=hsrc rfl;cases hn0:Nat.beq n 0
      .have hr:(VT.test (Bn i.bytes (len+n)) (.ret (.slice (some ⟨H.next,0,some 0⟩) (len+n) AT) (H.alloc (.vec k (GM++new) false))) .fail).run=some (v,H'):=by simpa [VT.run,hn0] using hr
       obtain⟨hb3,hr⟩:=A3 hr;obtain⟨rfl,rfl⟩:=BC hr;obtain⟨b1,b2⟩:=JT hb3;have hz1:Nat.ble (len+n) len=false:=by
        cases hq:Nat.ble (len+n) len
        .rfl
        .have:=VC hq;have:n=0:=by omega
         subst this;cases hn0
       have hsrc0:Ek i.size (.slice (some ⟨b,off,none⟩) len len) H=some (len,Ac k GM):=by
        unfold Ek;cases hz:Nat.beq (len * i.size) 0
        .rw[<-hsz]at hz;simp only[hb,<-hsz,hz,AAR,hll,AAu,AAO,d1]
        .simp only[hz,AAO];have hz:=AAP hz;rw[<-hsz]at hz;have:len=0:=by
          rcases Nat.mul_eq_zero.1 hz with h | h
          .exact h
          .exact absurd h hk0
         subst this;have:GM=[]:=AAp d2;subst this;rfl
       have hap:I2 i.size i.bytes (.slice (some ⟨b,off,none⟩) len len) n (Ac k new) H=some (.slice (some ⟨H.next,0,none⟩) (len+n) (AT+(len+n)),H.alloc (.cells (Ac k GM++Ac k new) i.size false)):=by
        unfold I2;simp only[hn0,AAR,hcap,AAO,hz1];unfold NM;simp only[hsrc0,b1,b2,ABv,AAO]
       obtain⟨μ',v',W',r1,r2,r3,r4⟩:=HK h hs hsrc hzsz (hnl hnn) hok hap;rw[<-C5,<-hsz]at r2 r4;obtain⟨g1,g2⟩:=GG hk0 (H1:=H) r2 r3 (fun _ _=>rfl) rfl;refine⟨μ',v',W',r1,g1,g2,r4.congr (fun _ _ _=>rfl) (fun q hq _=>?_) rfl rfl⟩;rw[AA.AN,AA.AN,AAW (by omega),AAW (by omega)]
      .have hr:(VT.ret (.slice (some ⟨b,off,none⟩) len len) H).run=some (v,H'):=by simpa [VT.run,hn0] using hr
       obtain⟨e8,e9⟩:=BC hr;rw[e8,e9];have hap:I2 i.size i.bytes (.slice (some ⟨b,off,none⟩) len len) n (Ac k new) H=some (.slice (some ⟨b,off,none⟩) len len,H):=by
        unfold I2;simp only[hn0,AAO,AAS (AAT len)]
       exact HK h hs hsrc hzsz (hnl hnn) hok hap
   .simp only[AAN]at hi;subst hi;cases hr
  .simp only[AAN]at hi;subst hi;cases hr
 .simp only[AAN]at hi;subst hi;cases hr
end
section
variable {P:Program}{base:Env}{W0:World}{Z:AW}{H:AA}{W:World}
theorem WG{argTypes:Array TypeId}{ty sT xT e:TypeId}{i:TypeInfo}{zz:Value}(hty:argTypes.toList=[sT,xT])(hu:P.underlying sT=some (.slice e))(hss:Dj (P.underlying xT)=true)(hie:P.info? e=some i)(q2:i.zero=some zz)(a:Option (Nat × Nat)):MJ P Z W argTypes ty e i zz (.slice (a.map fun p=>⟨p.1,p.2,none⟩) 0 0) 0 []:=by
 obtain⟨d,hux,hd⟩:=Gn hss;have hlen:∀w:World,(Builtin.lenOf (.slice (a.map fun p=>⟨p.1,p.2,none⟩) 0 0)).run P w= .ok 0 w:=fun w=>rfl
 have hf:∀w:World,(Builtin.firstCells i.size 0 (.slice (a.map fun p=>⟨p.1,p.2,none⟩) 0 0)).run P w= .ok (([]:AL).toArray) w:=fun w=>by
  cases a<;>simp[Builtin.firstCells,loadCells,loadCellsFrom]
 exact⟨⟨[],.nil,fun bs len cap w' hc hst hno=>Lu hty hu hux hd hie (hlen W) hc (hf W) hst hno⟩,
  [],.nil,fun bs len cap lo hnc hbig hbig2 o2=>JP (ty:=ty) (P:=P) (W:=W) (bs:=bs) (cap:=cap) hty hu hux hd hie q2 (hlen W) hnc hbig hbig2 (hf W.drew) o2⟩
theorem Ju(C:Nat)(v:Value):Ds [v] C=List.replicate C v:=by
 unfold Ds;rw[List.eq_replicate_iff];refine⟨by simp,fun x hx=>?_⟩;obtain⟨i,_,rfl⟩:=List.mem_map.1 hx;simp[Nat.mod_one]
theorem LI:∀m:Nat,Ac Ib (List.replicate m (0:Int))=List.replicate m (Value.int .u8 0)
 | 0=>rfl
 | m+1=>congrArg (List.cons (Value.int .u8 0)) (LI m)
theorem dD(h:AH base W0 Z H W){argTypes:Array TypeId}{ty sT xT:TypeId}{s s' x x' v:Value}{n:Int}{H':AA}{t:VT}(hty:argTypes.toList=[sT,xT])(hs:AF Z s s')(hx:AF Z x x')(hz:fD P sT xT s x=some n)(hi:QN Ib 1 s (decide (0<=n)&&decide (n<=140737488355328)) n.toNat (List.replicate n.toNat (0:Int)) H=some t)(hr:t.run=some (v,H')):
 ∃μ' v' W',(Builtin.append_ argTypes ty #[s',x']).run P W= .ok v' W'/\AH base W0 μ' H' W'/\AF μ' v v'/\Ah Z H μ' H':=by
 unfold fD at hz;split at hz
 .rename_i l c k n0;cases hb:(FU P sT&&Ny (P.underlying xT))
  .rw[hb]at hz;cases hz
  .rw[hb]at hz;simp only[AAO,AAN]at hz;subst hz;rw[AAQ]at hb;obtain⟨hb,hux⟩:=hb;obtain⟨kx,hux⟩:∃kx,P.underlying xT=some (.int kx):=by
    unfold Ny at hux;split at hux
    .exact⟨_,by assumption⟩
    .cases hux
   unfold FU at hb;split at hb
   .rename_i e hu;split at hb
    .rename_i hue hke hze;split at hb
     .rename_i i hie;simp only[AAQ]at hb;have hi1:=AAP hb.1;have hi2:=AAP hb.2;obtain⟨i2,zz,q1,q2,q3,q4⟩:=GU hze;rw[hie]at q1;cases q1
      have hzs:zz.cells.size=i.size:=by rw[<-AAy,q4,hi1];rfl
      cases hx
      refine TN (e:=e) (zz:=zz) (i:=i) (k:=Ib) h hs hi1.symm (by decide) (Ub Ib (by decide) _) hzs (fun hct=>?_) (hi2.symm ▸ hi) hr;rw[AAQ,AAl,AAl]at hct;obtain⟨m,rfl⟩:∃m:Nat,n0=Int.ofNat m:=⟨n0.toNat,by simp;omega⟩
      have hm:(m:Int)<=140737488355328:=hct.2;have ht:(Int.ofNat m).toNat=m:=rfl;rw[ht];refine⟨?_,AAr⟩;have hs:=rN (P:=P) (Z:=Z) (W:=W) (ty:=ty) (kx:=k) (zz:=zz) (z:=[.int .u8 0]) (n:=m) q4 q3 hty hu hux hie q2 hzs (by rw[hi2];omega) (by omega);rw[show Ds [.int .u8 0] (m * [Value.int .u8 0].length)=Ac Ib (List.replicate m (0:Int))from by rw[LI,List.length_singleton,ACN];exact Ju m _]at hs;exact hs
     .cases hb
    .cases hb
   .cases hb
 .cases hz
theorem Tp(h:AH base W0 Z H W){argTypes:Array TypeId}{args:AL}{args':BE}{ty:TypeId}{v:Value}{H':AA}{t:VT}(ha:Af Z args args'.toList)(hi:QI P argTypes args H=some t)(hr:t.run=some (v,H')):
 ∃μ' v' W',(Builtin.append_ argTypes ty args').run P W= .ok v' W'/\AH base W0 μ' H' W'/\AF μ' v v'/\Ah Z H μ' H':=by
 unfold QI at hi;split at hi
 .rename_i sT xT s x hty;obtain⟨s',x',rfl,hs,hx⟩:=Vh ha rfl;split at hi
  .rename_i n hzn;exact dD h hty hs hx hzn hi hr
  cases Ji:(isRow s||isRow x||isStr x||(isNil s&&rS x&&FU P sT)||(isNil s&&qZ x&&opT P sT))
  .simp only[Ji,AAR]at hi;cases hi
  .simp only[Ji,AAO]at hi;split at hi
   .rename_i e hu;split at hi
    .rename_i i z k hie hz hk;cases hc:(Dj (P.underlying xT)&&Nat.beq z.length i.size&&Nat.beq k.length i.size&& !(Nat.beq k.length 0))
     .simp only[hc,AAR,AAN]at hi;subst hi;cases hr
     .simp only[hc,AAO]at hi;simp only[AAQ,ABd]at hc;obtain⟨⟨⟨c1,c2⟩,c3⟩,c5⟩:=hc;have c2:=AAP c2;have c3:=AAP c3;have c5:k.length≠0:=by intro e;rw[e]at c5;cases c5
      obtain⟨i2,zz,q1,q2,q3,q4⟩:=GU hz;rw[hie]at q1;cases q1
      have hzsz:zz.cells.size=i.size:=by rw[<-c2,<-q4];simp
      split at hi
      .rename_i c n new hsrc;have key:∀t,(Ac k new).all Bc=true->QN k i.bytes s c n new H=some t->t.run=some (v,H')->∃μ' v' W',(Builtin.append_ argTypes ty #[s',x']).run P W= .ok v' W'/\AH base W0 μ' H' W'/\AF μ' v v'/\Ah Z H μ' H':=fun t hok hi hr=>by
        refine TN (e:=e) (zz:=zz) h hs c3 c5 hok hzsz (fun hct=>?_) hi hr;subst hct;rcases eE h c5 hx hsrc with⟨Hd,fx,g1,g2,g3,g4⟩ | ⟨rfl,rfl,a,rfl⟩
        .rw[c3]at g3;exact⟨SM g1 hty hu c1 hie q2 g2 g3,g4⟩
        .exact⟨WG hty hu c1 hie q2 a,rfl⟩
       cases hpk:(k.all SK.plain||(!isRow x&&(Ac k new).all Bc))
       .simp only[hpk,AAR]at hi;cases hix:isRow x
        .simp only[hix,AAR,AAN]at hi;subst hi;cases hr
        .simp only[hix,AAO]at hi;split at hi
         .rename_i t0 ht0;simp only[AAN]at hi;subst hi;obtain⟨hok,hr⟩:=A3 hr;exact key t0 hok ht0 hr
         .cases hi
       simp only[hpk,AAO]at hi;have hok:(Ac k new).all Bc=true:=by
        cases hk1:k.all SK.plain
        .rw[hk1,ABw,AAQ]at hpk;exact hpk.2
        .exact Ub k hk1 new
       exact key t hok hi hr
      .simp only[AAN]at hi;subst hi;cases hr
    .simp only[AAN]at hi;subst hi;cases hr
   .simp only[AAN]at hi;subst hi;cases hr
 .cases hi
theorem UD(l:List (EK.C Ib)):G8 (Ac Ib l)=some (@id (Au) l):=by
 induction l with
 | nil=>rfl
 | cons a l ih=>
  show(match PS (.int .u8 a),G8 (Ac Ib l)with | some n,some l=>some (n::l) | _,_=>none)=_;rw[ih];rfl
theorem R4(h:AH base W0 Z H W){src dst:TypeId}{x x' v:Value}{H':AA}{t:VT}(hx:AF Z x x')(hi:FY P src dst x H=some t)(hr:t.run=some (v,H')):
 ∃μ' v' W',(convert src dst x').run P W= .ok v' W'/\AH base W0 μ' H' W'/\AF μ' v v'/\Ah Z H μ' H':=by
 unfold FY at hi;split at hi
 .rename_i b j n c;simp only[AAN]at hi;subst hi;split at hr
  .rename_i e l ro hu1 hu2 hb;split at hr
   .rename_i hue;obtain⟨h1,hr⟩:=A3 hr;obtain⟨rfl,hH'⟩:=BC hr;rw[hH'];have h1:=VC h1;rcases GY (k:=Ib) h hb hx with⟨hx1,hnr,_⟩ | ⟨_,rfl,_,T0,a0,hm0,rfl⟩
    rotate_left
    .refine⟨Z,.string ByteArray.empty,W,?_,h,?_,Ah.refl _ _⟩
     .cases a0 with
      | none=>simp[convert,run_underlying hu1,run_underlying hu2,run_underlying hue,Conv.bytesToString]
      | some p=>
       have:=run_bytesToString (P:=P) W ⟨p.1,p.2,none⟩ 0 0 [] (by simp[loadCells,loadCellsFrom]);simp at this;simp[convert,run_underlying hu1,run_underlying hu2,run_underlying hue,this]
     .rw[ACd];exact .string _
    have hdv:=h.Lq hb fun T hT hv=>hnr T hT hv.2.1
    have hg:(H.put b (.cells (Ac Ib l) Ib.length ro)).get b=some (.cells (Ac Ib l) Ib.length ro):=by rw[AA.AQ,AAZ rfl]
    have hT:∃T,Z b=some T:=by cases hx with | Bd _ _ _ _ _ _ T hm _ _ _=>exact⟨T,hm⟩ | Dz _ _ _ T _ hm _=>exact⟨T,hm⟩
    obtain⟨μ',v',W',r1,r2,r3,r4⟩:=KH (P:=P) hdv (src:=src) (dst:=dst) hx1 (v:= .string (YM ((l.drop j).take n))) (H':=H.put b (.cells (Ac Ib l) Ib.length ro)) (by
     unfold JF;simp only[hu1,hu2,hue];have hs:Ek 1 (.slice (some ⟨b,j * Ib.length,none⟩) n c) (H.put b (.cells (Ac Ib l) Ib.length ro))=some (n,Ac Ib ((l.drop j).take n)):=by
      unfold Ek;cases hz:Nat.beq (n * 1) 0
      .simp only[hz,AAR,hg];have e1:((Ac Ib l).drop (j * Ib.length)).take (n * 1)=Ac Ib ((l.drop j).take n):=by rw[E4];exact ET Ib n _
       have hll:(Ac Ib ((l.drop j).take n)).length=n * 1:=by
        rw[A7,AAh,AAo,ABX (by omega)];rfl
       rw[e1,hll,AAu];rfl
      .simp only[hz,AAO];have hz:=AAP hz;have:n=0:=by omega
       subst this;rfl
     rw[hs];simp only[UD];rfl)
    cases r3
    refine⟨μ',_,W',r1,?_,.string _,?_⟩
    .have:=r2.JN (b:=b) (k:=Ib) (l:=l) (ro:=ro) hg;refine this.congr (fun q=>?_) rfl;simp only[AA.AQ]
     by_cases e:q=b
     .subst e;simp[hb]
     .simp[e]
    .obtain⟨T,hT⟩:=hT;refine r4.congr (fun q _ hm=>?_) (fun q _ hm=>?_) rfl rfl<;>
     .have:q≠b:=by rintro rfl;rw[hT]at hm;cases hm
      rw[AA.AQ,AAW this]
   .cases hr
  .cases hr
 .rename_i s;split at hi
  .rename_i e hu1 hu2;split at hi
   .rename_i hue;simp only[AAN]at hi;subst hi;obtain⟨rfl,rfl⟩:=BC hr;obtain⟨μ',v',W',r1,r2,r3,r4⟩:=KH (P:=P) h (src:=src) (dst:=dst) hx (v:= .slice (some ⟨H.next,0,none⟩) s.size (AT+s.size)) (H':=H.alloc (.cells (Ac Ib (Ci s)) Ib.length false)) (by
     unfold JF;simp only[hu1,hu2,hue,WH];rfl)
    obtain⟨g1,g2⟩:=GG (k:=Ib) (by decide) (H1:=H) r2 r3 (fun _ _=>rfl) rfl;refine⟨μ',v',W',r1,g1,g2,r4.congr (fun _ _ _=>rfl) (fun q hq _=>?_) rfl rfl⟩;rw[AA.AN,AA.AN,AAW (by omega),AAW (by omega)]
   .cases hi
  .cases hi
 .cases hi
theorem RI(h:AH base W0 Z H W){t:TypeId}{s:Ag}{x' ix ix' v:Value}{H':AA}(hx:AF Z (.string s) x')(hix:AF Z ix ix')(hi:(Gg P t s ix H).run=some (v,H')):
 H'=H/\∃v',(Instr.index t x' ix').run P W= .ok v' W/\AF Z v v':=by
 unfold Gg at hi;split at hi
 .rename_i kd m hu;obtain⟨h1,hr⟩:=A3 hi;obtain⟨rfl,rfl⟩:=BC hr;simp only[AAQ,AAl]at h1;obtain⟨q,rfl⟩:∃q:Nat,m=Int.ofNat q:=⟨m.toNat,Me h1.1⟩
  have hlt:q < s.size:=VC h1.2;refine⟨rfl,N5 hx hix ?_⟩;unfold QL;simp only[OK,hu];have hl:q < s.data.toList.length:=by simpa using hlt
  have:s.data.toList[q]? = some (s.data.toList.getD q 0):=by
   rw[AAX,AAU hl];rfl
  simp only[this];rfl
 .cases hi
theorem kQ{v:Value}(h:Zr v=true):v= .int .u32 (gr v):=by
 unfold Zr at h;split at h
 .rfl
 .cases h
theorem RP(h:AH base W0 Z H W){t:TypeId}{xs:BE}{x' ix ix' v:Value}{H':AA}{T:VT}(hx:AF Z (.agg xs) x')(hix:AF Z ix ix')(ht:Eo P t xs.toList ix H=some T)(hi:T.run=some (v,H')):
 H'=H/\∃v',(Instr.index t x' ix').run P W= .ok v' W/\AF Z v v':=by
 unfold Eo at ht;split at ht
 .rename_i n e kd m hu;split at ht
  .rename_i sz hue hsz;cases hb:Nat.beq sz 1
   .simp only[hb,AAR]at ht;cases ht
   .simp only[hb,AAO,AAN]at ht;subst ht;have hb:=AAP hb;subst hb;obtain⟨h1,hr⟩:=A3 hi;obtain⟨rfl,rfl⟩:=BC hr;simp only[AAQ,AAl]at h1;obtain⟨⟨h1,h2⟩,h3⟩:=h1;obtain⟨q,rfl⟩:∃q:Nat,m=Int.ofNat q:=⟨m.toNat,Me h1⟩
    refine⟨rfl,N5 hx hix ?_⟩;unfold QL;have h2:Nat.blt q n=true:=h2;have h3:Zr (xs.toList.getD q Bo)=true:=h3;simp only[OK,hu,hsz,h2,AAO];unfold Vq;have hd:Ej (.int .u32)=false:=rfl;simp only[hue,hsz,hd,AAR,ACN];have hq:q < xs.toList.length:=by
     rcases AAt q xs.toList.length with hq | hq
     .exact hq
     .rw[AAX,AAq hq]at h3;cases h3
    have he:xs.toList[q]? = some (xs.toList.getD q Bo):=by
     rw[AAX,AAU hq];rfl
    rw[he];exact congrArg some (kQ h3)
  .cases ht
 .cases ht
theorem ZU(h:AH base W0 Z H W){it it' v:Value}{isString:Bool}{ty:TypeId}{H':AA}{t:VT}(hx:AF Z it it')(hi:Yp it isString H=some t)(hr:t.run=some (v,H')):
 ∃v' W',(Instr.next it' isString ty).run P W= .ok v' W'/\AH base W0 Z H' W'/\AF Z v v'/\Ah Z H Z H':=by
 refine Wx h hx ?_;unfold Yp at hi;unfold Zt;split at hi
 .split at hi
  .rename_i s pos hg;simp only[AAN]at hi;subst hi;simp only[hg];cases hb:Nat.blt pos s.size
   .simpa [VT.run,hb] using hr
   .simpa [VT.run,hb] using hr
  .cases hi
 .cases hi
theorem ch(h:AH base W0 Z H W){op:BinOp}{ty:TypeId}{px py:Operand}{x x' y y' v:Value}{H':AA}{t:VT}(hx:AF Z x x')(hy:AF Z y y')(hi:M3 op x y H=some t)(hr:t.run=some (v,H')):
 H'=H/\∃v',(do eqGuard op ty px py x' y';binOp op ty x' y':Sem Value).run P W= .ok v' W/\AF Z v v':=by
 unfold M3 at hi;split at hi
 .rename_i k a k' b;cases hk:decide (k=k')
  .simp only[hk,AAR]at hi;cases hi
  .simp only[hk,AAO,AAN]at hi;have hk:=ABU hk;subst hk hi;obtain⟨h1,hr⟩:=A3 hr;obtain⟨rfl,rfl⟩:=BC hr;have h1:=ABU h1;cases hx;cases hy
   exact⟨rfl,_,by simp[eqGuard,binOp,Op.intDiv,h1],.int _ _⟩
 .rename_i k a k' b;cases hk:decide (k=k')
  .simp only[hk,AAR]at hi;cases hi
  .simp only[hk,AAO,AAN]at hi;have hk:=ABU hk;subst hk hi;obtain⟨h1,hr⟩:=A3 hr;obtain⟨rfl,rfl⟩:=BC hr;have h1:=ABU h1;cases hx;cases hy
   exact⟨rfl,_,by simp[eqGuard,binOp,Op.intDiv,h1],.int _ _⟩
 .rename_i k a k' b;simp only[AAN]at hi;subst hi;obtain⟨h1,hr⟩:=A3 hr;obtain⟨rfl,rfl⟩:=BC hr;have h1:=ABU h1;cases hx;cases hy
  exact⟨rfl,_,by simp[eqGuard,binOp,Op.shift,Int.not_lt.2 h1],.int _ _⟩
 .rename_i k a k' b;simp only[AAN]at hi;subst hi;obtain⟨h1,hr⟩:=A3 hr;obtain⟨rfl,rfl⟩:=BC hr;have h1:=ABU h1;cases hx;cases hy
  exact⟨rfl,_,by simp[eqGuard,binOp,Op.shift,Int.not_lt.2 h1],.int _ _⟩
 .rename_i a b;simp only[AAN]at hi;subst hi;obtain⟨h1,hr⟩:=A3 hr;obtain⟨rfl,rfl⟩:=BC hr;cases hx;cases hy
  refine⟨rfl,_,?_,.string _⟩;have h2:a.size+b.size<=9223372036854775807:=VC h1;have:¬((a.size+b.size:Nat):Int) > IntKind.i64.max:=by
   have h3:IntKind.i64.max=9223372036854775807:=rfl;omega
  simp only[eqGuard,binOp,Op.stringOp];rw[AAW this];simp
 .cases hi
theorem Ln{e:TypeId}{D:TypeDesc}(hu:P.underlying e=some D)(hD:Ej D=false){xs:BE}{off:Nat}{v:Value}(hx:xs[off]? = some v)(W:World):(part e xs off).run P W= .ok v W:=by
 simp only[part,Sem.run_bind,Jc hu,hD,Result.andThen_ok,Bool.false_eq_true,ACv,hx,Sem.run_pure]
theorem Pp(xs ys xs' ys':BE)(hx:Af Z xs.toList xs'.toList)(hy:Af Z ys.toList ys'.toList):∀(fs:List Field)(b:Bool),dP P fs xs.toList ys.toList=some b->(Op.eqFields 9999 xs' ys' fs).run P W= .ok b W
 | [],b,h=>by cases h;rfl
 | f::fs,b,h=>by
  simp only[dP]at h;cases hn:(f.name== "_")
  rotate_left
  .simp only[hn,AAO]at h;cases h
  simp only[hn,AAR]at h;have hn:f.name≠ "_" := by intro e;rw[e]at hn;simp at hn
  have key:∀{D:TypeDesc}(hu:P.underlying f.type=some D)(hD:Ej D=false){u v u' v':Value}(h1:xs'[f.offset]? = some u')(h2:ys'[f.offset]? = some v'){c r:Bool}(he:(Op.equalIn 9999 f.type u' v').run P W= .ok c W)(hr:dP P fs xs.toList ys.toList=some r),
   (Op.eqFields 9999 xs' ys' (f::fs)).run P W= .ok (c&&r) W:=by
   intro D hu hD u v u' v' h1 h2 c r he hr;have ih:=Pp xs ys xs' ys' hx hy fs r hr;simp only[Op.eqFields,AAZ hn,Sem.run_bind,Ln hu hD h1,Ln hu hD h2,Result.andThen_ok,he];cases c
   .rfl
   .simpa using ih
  split at h
  .rename_i kk k a k' b' r h1 h2 h3 h4;cases hk:decide (k=k')
   .simp only[hk,AAR]at h;cases h
   simp only[hk,AAO,AAN]at h;subst h;have hk:=ABU hk;subst hk;obtain⟨u',e1,e2⟩:=hx.get? h2;obtain⟨v',e3,e4⟩:=hy.get? h3;cases e2;cases e4
   exact key h1 rfl (u:= .int k a) (v:= .int k b') (by simpa using e1) (by simpa using e3) (run_equalIn_int W 9998 _ k _ a b' h1) h4
  .rename_i a b' r h1 h2 h3 h4;cases h
   obtain⟨u',e1,e2⟩:=hx.get? h2;obtain⟨v',e3,e4⟩:=hy.get? h3;cases e2;cases e4
   exact key h1 rfl (u:= .bool a) (v:= .bool b') (by simpa using e1) (by simpa using e3) (run_equalIn_bool' W 9998 _ a b' h1) h4
  .rename_i a b' r h1 h2 h3 h4;cases h
   obtain⟨u',e1,e2⟩:=hx.get? h2;obtain⟨v',e3,e4⟩:=hy.get? h3;cases e2;cases e4
   exact key h1 rfl (u:= .string a) (v:= .string b') (by simpa using e1) (by simpa using e3) (run_equalIn_string W 9998 _ a b' h1) h4
  .cases h
theorem Xr{op:BinOp}{ty:TypeId}{px py:Operand}{x x' y y' v:Value}(hx:AF Z x x')(hy:AF Z y y')(hi:Zc P op ty x y=some v):
 (do eqGuard op ty px py x' y';binOp op ty x' y':Sem Value).run P W= .ok v W/\AF Z v v:=by
 unfold Zc at hi;split at hi
 .rename_i xs ys;split at hi
  .rename_i fs hu;cases hc:(!P.stoodInHeld ty&& !P.eqGuardType P.depth ty)
   .simp only[hc,AAR]at hi;cases hi
   simp only[hc,AAO,AAV]at hi;obtain⟨b,hb,rfl⟩:=hi;simp only[AAQ,ABd]at hc;obtain⟨xs',rfl,rx⟩:=AF.Cr.1 hx;obtain⟨ys',rfl,ry⟩:=AF.Cr.1 hy;have hf:P.fieldsOf ty=fs:=by simp only[Program.fieldsOf,hu]
   have h0:=run_equalIn_struct (P:=P) W 9999 ty xs' ys' (by rw[hf];exact hu) hc.1;rw[hf,Pp xs ys xs' ys' rx ry fs.toList b hb]at h0;simp only[Sem.run_bind,run_eqGuard_agg (P:=P) W .eql ty px py xs' ys' hc.2,Result.andThen_ok,run_eql_struct (P:=P) W ty xs' ys',h0];exact⟨trivial,.bool b⟩
  .cases hi
 .rename_i xs ys;split at hi
  .rename_i fs hu;cases hc:(!P.stoodInHeld ty&& !P.eqGuardType P.depth ty)
   .simp only[hc,AAR]at hi;cases hi
   simp only[hc,AAO,AAV]at hi;obtain⟨b,hb,rfl⟩:=hi;simp only[AAQ,ABd]at hc;obtain⟨xs',rfl,rx⟩:=AF.Cr.1 hx;obtain⟨ys',rfl,ry⟩:=AF.Cr.1 hy;have hf:P.fieldsOf ty=fs:=by simp only[Program.fieldsOf,hu]
   have h0:=run_equalIn_struct (P:=P) W 9999 ty xs' ys' (by rw[hf];exact hu) hc.1;rw[hf,Pp xs ys xs' ys' rx ry fs.toList b hb]at h0;simp only[Sem.run_bind,run_eqGuard_agg (P:=P) W .neq ty px py xs' ys' hc.2,Result.andThen_ok,run_neq_struct (P:=P) W ty xs' ys',h0];exact⟨trivial,.bool _⟩
  .cases hi
 .cases hi
theorem ZO(h:AH base W0 Z H W){op:BinOp}{ty:TypeId}{px py:Operand}{x x' y y' v:Value}{H':AA}{t:VT}(hx:AF Z x x')(hy:AF Z y y')(hi:Jp P op ty x y H=some t)(hr:t.run=some (v,H')):
 H'=H/\∃v',(do eqGuard op ty px py x' y';binOp op ty x' y':Sem Value).run P W= .ok v' W/\AF Z v v':=by
 unfold Jp at hi;split at hi
 .rename_i v0 he;cases hi
  cases hr
  obtain⟨h1,h2⟩:=Xr (W:=W) (px:=px) (py:=py) hx hy he;exact⟨rfl,_,h1,h2⟩
 .split at hi
  .rename_i c r he;cases hi
   obtain⟨hc,hr⟩:=A3 hr;obtain⟨rfl,rfl⟩:=BC hr;refine⟨rfl,.bool r,Nd ?_ W,.bool r⟩;unfold jE at he;split at he
   all_goals first | (cases he;done) | skip
   all_goals
    split at he
    .rename_i hu;cases he
     have hn:=VC hc;cases hy
     cases hx with
     | Bd=>simp[IT,Gd,Bl,hu]
     | Dz=>omega
     | C9=>simp[IT,Gd,Bl,hu]
     | GI=>omega
    .cases he
  .exact ch h hx hy hi hr
theorem WD{t:TypeId}{x x' ix' v:Value}{k:IntKind}{m:Int}{H':AA}(hx:AF Z x x')(hix:AF Z (.int k m) ix'):∀n,(YS P t x k m H n).run=some (v,H')->
 H'=H/\∃v',(Instr.indexAt t x' ix').run P W= .ok v' W/\AF Z v v'
 | 0,hr=>by cases hr
 | j+1,hr=>by
  unfold YS at hr;split at hr
  .rename_i p h0;cases h2:(m== .ofNat j)
   .rw[h2]at hr;exact WD hx hix j hr
   .rw[h2]at hr;cases hr
    have e:=eq_of_beq h2;subst e;exact⟨rfl,Gy hx hix h0⟩
  .cases hr
theorem bZ{t:TypeId}{x x' ix ix' v:Value}{H':AA}{tr:VT}(hx:AF Z x x')(hix:AF Z ix ix')(hi:MY P t x ix H=some tr)(hr:tr.run=some (v,H')):
 H'=H/\∃v',(Instr.indexAt t x' ix').run P W= .ok v' W/\AF Z v v':=by
 unfold MY at hi;split at hi
 .rename_i b off n c k m;cases hn:Nat.ble n 12
  .simp only[hn,AAR]at hi;cases hi
  .simp only[hn,AAO,AAN]at hi;subst hi;exact WD hx hix n hr
 .cases hi
theorem NF{ρ':Operand->Value}{o:Oper}{c:Call}{b:Builtin}(ho:o.op= .call c)(hcal:c.callee= .builtin b):∃cst,execOp ρ' o=builtin b c.argTypes o.type cst (c.args.map ρ'):=by
 simp only[execOp,ho,resolve,hcal];exact⟨_,rfl⟩
theorem Wi(_h:AH base W0 Z H W){ρ':Operand->Value}{o:Oper}{t:TypeId}(_ho:o.op= .alloc t){x:VT}{v:Value}{H':AA}(hi:UA P t H=some x)(_hr:x.run=some (v,H')):
 CY P base W0 Z H W (execOp ρ' o) v H':=by
 have hi:(none:Option VT)=some x:=hi;cases hi
theorem RL{Z:AW}:∀(n:Nat){a b:AL},Af Z a b->Af Z (a.take n) (b.take n)
 | 0,_,_,_=> .nil
 | _+1,_,_,.nil=> .nil
 | n+1,_,_,.cons h1 h2=> .cons h1 (RL n h2)
theorem Rs(h:AH base W0 Z H W){t:TypeId}{len len' cap cap' v:Value}{x:VT}{H':AA}(hl:AF Z len len')(hc:AF Z cap cap')(hi:Qh P t len cap H=some x)(hr:x.run=some (v,H')):
 ∃μ' v' W',(Instr.makeSlice t len' cap').run P W= .ok v' W'/\AH base W0 μ' H' W'/\AF μ' v v'/\Ah Z H μ' H':=by
 unfold Qh at hi;cases hb:FU P t
 .rw[hb]at hi;cases hi
 .rw[hb]at hi;simp only[AAO]at hi;unfold FU at hb;split at hb
  .rename_i e hu;split at hb
   .rename_i hue hke hze;split at hb
    .rename_i i hie;simp only[AAQ]at hb;have hi1:=AAP hb.1;have hi2:=AAP hb.2;split at hi
     .rename_i n c;simp only[AAN]at hi;subst hi;obtain⟨q,hr2⟩:=A3 hr;obtain⟨rfl,rfl⟩:=BC hr2;simp only[AAQ,AAl]at q;obtain⟨⟨q0,q1⟩,q3⟩:=q;cases hl;cases hc
      obtain⟨C,rfl⟩:∃C:Nat,c=Int.ofNat C:=⟨c.toNat,by simp;omega⟩
      obtain⟨m,rfl⟩:∃m:Nat,n=Int.ofNat m:=⟨n.toNat,by simp;omega⟩
      have q2:m<=C:=Int.ofNat_le.1 q1;have q3:C<=140737488355328:=by have:(C:Int)<=140737488355328:=q3;omega
      have hcnd:(Nat.ble m C&&Nat.ble (i.bytes * C) 281474976710656&&Nat.blt C 9223372036854775808)=true:=by
       rw[hi2,AAQ,AAQ];exact⟨⟨AAS q2,AAS (by omega)⟩,AAS (show C+1<=9223372036854775808 by omega)⟩
      obtain⟨o',T,hrun,hT,ho⟩:=Fy (P:=P) (Z:=Z) (W:=W) (k1:= .u8) (k2:= .u8) hu hie hze hcnd;have hzz:Ds [.int .u8 0] (C * i.size)=List.replicate C (.int .u8 0):=by
       rw[hi1,ACN];exact Ju C (.int .u8 0)
      rw[hzz,hi1]at ho;have htn:(Int.ofNat m).toNat=m:=rfl;rw[htn];cases ho with
      | cells cs e2 ro c t2 lo hi he hc2 hr3 hf=>
       have hlen:C<=T.r:=by
        have:=hc2.length;rw[AAr,AAh,AAo,AAy]at this;omega
       have henc:Ac Ib (List.replicate m (0:Int))=(List.replicate C (Value.int .u8 0)).take m:=by
        rw[List.take_replicate,ABX q2,LI]
       have hvec:Cb Z T (.vec Ib (List.replicate m (0:Int)) false) (.cells c t2 (lo,hi)):= .vec T Ib _ false _ (.cells T _ _ _ c t2 lo hi he (by
        have h1:=RL m hc2;rw[<-henc,ABi]at h1;have e1:min m (List.replicate C (Value.int .u8 0)).length=(Ac Ib (List.replicate m (0:Int))).length:=by
         rw[AAr,A7,AAr];show min m C=m * 1;omega
        rw[e1]at h1;exact h1) hr3 hf)
       obtain⟨g1,g2⟩:=h.alloc hT.1 hvec;refine⟨_,_,_,hrun,g1,?_,g2⟩;rw[<-hT.1]
       by_cases hr0:T.r=0
       .have hm0:m=0:=by omega
        have hc0:C=0:=by omega
        subst hm0;rw[hc0];exact .Dz H.next 0 AT T (some (T.c,0)) (AW.AY _ _ _) (.inr ⟨AAT _,ABQ _⟩)
       refine .Bd H.next 0 m AT C 0 T (AW.AY _ _ _) (.inr ⟨AAT _,by omega,q2,by rw[<-he];omega,.inl he.symm⟩) (.inl (by rw[hT.2];simp)) hr0
     .rename_i k1 k2 c OO;simp only[AAN]at hi;subst hi;obtain⟨q,hr2⟩:=A3 hr;obtain⟨rfl,rfl⟩:=BC hr2;simp only[AAQ,AAl]at q;obtain⟨q1,q3⟩:=q;cases hl;cases hc
      obtain⟨C,rfl⟩:∃C:Nat,c=Int.ofNat C:=⟨c.toNat,by simp;omega⟩
      have q2:0<=C:=AA4 _;have q3:C<=140737488355328:=by have:(C:Int)<=140737488355328:=q3;omega
      have hcnd:(Nat.ble 0 C&&Nat.ble (i.bytes * C) 281474976710656&&Nat.blt C 9223372036854775808)=true:=by
       rw[hi2,AAQ,AAQ];exact⟨⟨AAS q2,AAS (by omega)⟩,AAS (show C+1<=9223372036854775808 by omega)⟩
      obtain⟨o',T,hrun,hT,ho⟩:=Fy (P:=P) (Z:=Z) (W:=W) (k1:=k1) (k2:=k2) hu hie hze hcnd;have hzz:Ds [.int .u8 0] (C * i.size)=List.replicate C (.int .u8 0):=by
       rw[hi1,ACN];exact Ju C (.int .u8 0)
      rw[hzz,hi1]at ho;cases ho with
      | cells cs e2 ro c t2 lo hi he hc2 hr3 hf=>
       have hlen:C<=T.r:=by
        have:=hc2.length;rw[AAr,AAh,AAo,AAy]at this;omega
       have hvec:Cb Z T (.vec Ib [] false) (.cells c t2 (lo,hi)):= .vec T Ib _ false _ (.cells T _ _ _ c t2 lo hi he (by simp[Ac];exact .nil) hr3 hf);obtain⟨g1,g2⟩:=h.alloc hT.1 hvec;refine⟨_,_,_,hrun,g1,?_,g2⟩;have hce:AT=18446744073709551616:=by unfold AT;rfl
       rw[<-hT.1]
       by_cases hr0:T.r=0
       .have hc0:C=0:=by omega
        rw[hc0];exact .Dz H.next 0 AT T (some (T.c,0)) (AW.AY _ _ _) (.inr ⟨AAT _,ABQ _⟩)
       refine .Bd H.next 0 0 AT C 0 T (AW.AY _ _ _) (.inr ⟨AAT _,by omega,q2,by rw[<-he];omega,.inl he.symm⟩) (.inl (by rw[hT.2];simp)) hr0
     .cases hi
    .cases hb
   .cases hb
  .cases hb
theorem YX(h:AH base W0 Z H W){t:TypeId}{len len' v:Value}{x:VT}{H':AA}(hl:AF Z len len')(hi:UJ P t len len H=some x)(hr:x.run=some (v,H')):
 ∃μ' v' W',(Instr.makeSlice t len' len').run P W= .ok v' W'/\AH base W0 μ' H' W'/\AF μ' v v'/\Ah Z H μ' H':=by
 unfold UJ at hi;split at hi
 .rename_i n;cases hb:FU P t
  .rw[hb]at hi;cases hi
  .rw[hb]at hi;simp only[AAO,AAN]at hi;subst hi;unfold FU at hb;split at hb
   .rename_i e hu;split at hb
    .rename_i hue hke hze;split at hb
     .rename_i i hie;simp only[AAQ]at hb;have hi1:=AAP hb.1;have hi2:=AAP hb.2;obtain⟨q,hr2⟩:=A3 hr;obtain⟨rfl,rfl⟩:=BC hr2;simp only[AAQ,AAl]at q;obtain⟨q0,q3⟩:=q;cases hl
      obtain⟨C,rfl⟩:∃C:Nat,n=Int.ofNat C:=⟨n.toNat,by simp;omega⟩
      have q3:C<=140737488355328:=by have:(C:Int)<=140737488355328:=q3;omega
      have hcnd:(Nat.ble C C&&Nat.ble (i.bytes * C) 281474976710656&&Nat.blt C 9223372036854775808)=true:=by
       rw[hi2,AAQ,AAQ];exact⟨⟨AAS (AAT _),AAS (by omega)⟩,AAS (show C+1<=9223372036854775808 by omega)⟩
      obtain⟨o',T,hrun,hT,ho⟩:=Fy (P:=P) (Z:=Z) (W:=W) (k1:= .i64) (k2:= .i64) hu hie hze hcnd;have hzz:Ds [.int .u8 0] (C * i.size)=List.replicate C (.int .u8 0):=by
       rw[hi1,ACN];exact Ju C (.int .u8 0)
      rw[hzz,hi1]at ho;have htn:(Int.ofNat C).toNat=C:=rfl;rw[htn];cases ho with
      | cells cs e2 ro c t2 lo hi he hc2 hr3 hf=>
       have hlen:C<=T.r:=by
        have:=hc2.length;rw[AAr,AAh,AAo,AAy]at this;omega
       have henc:Ac Ib (List.replicate C (0:Int))=List.replicate C (Value.int .u8 0):=LI ..;have hvec:Cb Z T (.vec Ib (List.replicate C (0:Int)) false) (.cells c t2 (lo,hi)):= .vec T Ib _ false _ (.cells T _ _ _ c t2 lo hi he (by
        rw[henc];exact hc2) hr3 hf)
       obtain⟨g1,g2⟩:=h.alloc hT.1 hvec;refine⟨_,_,_,hrun,g1,?_,g2⟩;rw[<-hT.1]
       by_cases hr0:T.r=0
       .have hc0:C=0:=by omega
        subst hc0;exact .Dz H.next 0 AT T (some (T.c,0)) (AW.AY _ _ _) (.inr ⟨AAT _,ABQ _⟩)
       refine .Bd H.next 0 C AT C 0 T (AW.AY _ _ _) (.inr ⟨AAT _,by omega,AAT _,by rw[<-he];omega,.inl he.symm⟩) (.inl (by rw[hT.2];simp)) hr0
     .cases hb
    .cases hb
   .cases hb
 .exact Rs h hl hl hi hr
theorem S9{k:EK}{z:AL}{x:EK.C k}(hx:EK.enc k x=z)(hl:z.length=k.length):∀n,Ds z (n * z.length)=Ac k (List.replicate n x)
 | 0=>by rw[ABy];rfl
 | n+1=>by
  have ih:=S9 hx hl n;rw[List.replicate_succ'];rw[C5,<-ih];have hone:Ac k [x]=z:=by unfold Ac;simp[hx]
  rw[hone];unfold Ds;rw[ACC,List.range_add,ACx]
  congr 1
  rw[ACY];apply List.ext_getElem
  .simp
  .intro i h1 h2;have hi:i < z.length:=h2;simp only[List.getElem_map,List.getElem_range,Function.comp];rw[ADR,Nat.add_mul_mod_self_right,Nat.mod_eq_of_lt hi,AAX,AAU hi];rfl
theorem VJ(h:AH base W0 Z H W){argTypes:Array TypeId}{args:AL}{args':BE}{ty:TypeId}{v:Value}{H':AA}{t:VT}(ha:Af Z args args'.toList)(hi:TY P argTypes args H=some t)(hr:t.run=some (v,H')):
 ∃μ' v' W',(Builtin.clear_ argTypes ty args').run P W= .ok v' W'/\AH base W0 μ' H' W'/\AF μ' v v'/\Ah Z H μ' H':=by
 unfold TY at hi;split at hi
 .rename_i tt rest b j n c hty;split at hi
  .rename_i e k l hu hb;split at hi
   .rename_i z hz;split at hi
    .rename_i x hx;have hx:=EK.Ii _ _ _ hx;cases hc:(Nat.beq z.length k.length&&z.all Bc)
     .simp only[hc,AAR,AAN]at hi;subst hi;cases hr
     .simp only[hc,AAO,AAN]at hi;subst hi
      simp only[AAQ]at hc;have hzl:=AAP hc.1;obtain⟨s',rfl,hs⟩:=aO ha rfl;cases hn0:Nat.beq n 0
      .simp only[VT.run,hn0,AAR]at hr;cases hble:Nat.ble (j+n) l.length
       .rw[hble]at hr;cases hr
       rw[hble]at hr;simp only[AAO,AAN,AAm]at hr;obtain⟨rfl,rfl⟩:=hr;have h1:j+n<=l.length:=VC hble;have hn:n≠0:=by intro e1;rw[e1]at hn0;cases hn0
       have hdv:=h.Lq hb fun T _=>QC (by omega)
       have hg:(H.put b (.cells (Ac k l) k.length false)).get b=some (.cells (Ac k l) k.length false):=by rw[AA.AQ,AAZ rfl]
       have hT:∃T,Z b=some T:=by cases hs with | Bd _ _ _ _ _ _ T hm=>exact⟨T,hm⟩ | Dz _ _ _ T _ hm=>exact⟨T,hm⟩ 
       have hflat:=(GY h hb hs).elim (fun q=>q.1) fun q=>absurd q.2.1 hn
       have hze:=S9 hx hzl n;have hlen:j * k.length+(Ac k (List.replicate n x)).length<=(Ac k l).length:=by
        rw[A7,A7,AAr,<-ABj];exact AA9 _ h1
       have hall:(Ac k (List.replicate n x)).all Bc=true:=by
        rw[ACG];intro y hy;unfold Ac at hy;obtain⟨p,hp,hy⟩:=List.mem_flatMap.1 hy;rw[ACh hp,hx]at hy;exact List.all_eq_true.1 hc.2 y hy
       have hspl:Be (Ac k l) (j * k.length) (Ac k (List.replicate n x))=Ac k (l.take j++(List.replicate n x++l.drop (j+n))):=by
        unfold Be;rw[C5,C5,A7,AAr,ET,<-ABj,E4]
       have hs2:MA P argTypes [.slice (some ⟨b,j * k.length,none⟩) n c] (H.put b (.cells (Ac k l) k.length false))=some (Go.undef,(H.put b (.cells (Ac k l) k.length false)).put b (.cells (Ac k (l.take j++(List.replicate n x++l.drop (j+n)))) k.length false)):=by
        unfold MA;simp only[hty,hu,hn0,AAR,hz,hg,hze,hall,AAS hlen,ABv,AAO,hspl]
       obtain⟨v',W',r1,r2,r4,r3⟩:=Nr (P:=P) (ty:=ty) hdv (args':=#[s']) (.cons hflat .nil) hs2;refine⟨Z,v',W',r1,?_,r4,?_⟩
       .have:=r2.JN (b:=b) (k:=k) (l:=l.take j++(List.replicate n x++l.drop (j+n))) (ro:=false) (by rw[AA.AQ,AAZ rfl]);refine this.congr (fun j=>?_) rfl;simp only[AA.AQ];split<;>rfl
       .obtain⟨T,hT⟩:=hT;refine r3.congr (fun j _ hj=>?_) (fun j _ hj=>?_) rfl rfl
        .rw[AA.AQ,AAW];rintro rfl;rw[hT]at hj;cases hj
        .simp only[AA.AQ];have:j≠b:=by rintro rfl;rw[hT]at hj;cases hj
         simp[this]
      .have e0:=AAP hn0;subst e0;simp only[VT.run,AAu,AAO,AAN,AAm]at hr;obtain⟨rfl,rfl⟩:=hr;have hs2:MA P argTypes [.slice (some ⟨b,0,some j⟩) 0 c] H=some (Go.undef,H):=by
        unfold MA;simp only[hty,hu];rfl
       obtain⟨v',W',r1,r2,r4,r3⟩:=Nr (P:=P) (ty:=ty) h (args':=#[s']) (.cons hs .nil) hs2;exact⟨Z,v',W',r1,r2,r4,r3⟩
    .simp only[AAN]at hi;subst hi;cases hr
   .simp only[AAN]at hi;subst hi;cases hr
  .simp only[AAN]at hi;subst hi;cases hr
 .cases hi
theorem nf(h:AH base W0 Z H W){ρ ρ':Operand->Value}(hρ:∀x,AF Z (ρ x) (ρ' x)){o:Oper}{v:Value}{H':AA}{t:VT}(hi:Us P ρ o H=some t)(hr:t.run=some (v,H')):CY P base W0 Z H W (execOp ρ' o) v H':=by
 unfold Us at hi;split at hi
 .rename_i t a ho;split at hi
  .rename_i b off i hp;simp only[AAN]at hi;subst hi;have ha:=hρ a;rw[hp]at ha;obtain⟨rfl,hv⟩:=ZP h ha hr;have he:execOp ρ' o=(do pure (.value (←Instr.loadAt t (ρ' a)))):=by simp only[execOp,ho]
   rw[he];exact CY.value h hv
  .cases hi
 .rename_i t a x ho;split at hi
  .rename_i b off i hp;simp only[AAN]at hi;subst hi;have ha:=hρ a;rw[hp]at ha;obtain⟨rfl,W',h1,h2,h3⟩:=Vx h ha (hρ x) hr;exact⟨Z,.skip,Go.undef,W',by simp[execOp,ho,h1],.inr ⟨rfl,rfl⟩,h2,AF.undef Z,h3⟩
  .cases hi
 .rename_i t x i ho;split at hi
  .rename_i b j n c hp;simp only[AAN]at hi;subst hi;have ha:=hρ x;rw[hp]at ha;obtain⟨rfl,hv⟩:=O6 h ha (hρ i) hr;have he:execOp ρ' o=(do pure (.value (←Instr.indexAt t (ρ' x) (ρ' i)))):=by simp only[execOp,ho]
   rw[he];exact CY.value h hv
  .rename_i b j hp;simp only[AAN]at hi;subst hi;have ha:=hρ x;rw[hp]at ha;obtain⟨rfl,hv⟩:=QQ h ha (hρ i) hr;have he:execOp ρ' o=(do pure (.value (←Instr.indexAt t (ρ' x) (ρ' i)))):=by simp only[execOp,ho]
   rw[he];exact CY.value h hv
  .obtain⟨rfl,hv⟩:=bZ (P:=P) (W:=W) (hρ x) (hρ i) hi hr;have he:execOp ρ' o=(do pure (.value (←Instr.indexAt t (ρ' x) (ρ' i)))):=by simp only[execOp,ho]
   rw[he];exact CY.value h hv
 .rename_i t x i ho;split at hi
  .rename_i s hp;simp only[AAN]at hi;subst hi;have ha:=hρ x;rw[hp]at ha;obtain⟨rfl,hv⟩:=RI h ha (hρ i) hr;have he:execOp ρ' o=(do pure (.value (←Instr.index t (ρ' x) (ρ' i)))):=by simp only[execOp,ho]
   rw[he];exact CY.value h hv
  .rename_i xs hp;have ha:=hρ x;rw[hp]at ha;obtain⟨rfl,hv⟩:=RP h ha (hρ i) hi hr;have he:execOp ρ' o=(do pure (.value (←Instr.index t (ρ' x) (ρ' i)))):=by simp only[execOp,ho]
   rw[he];exact CY.value h hv
  .cases hi
 .rename_i s x k ho;split at hi
  .rename_i b off i hp;simp only[AAN]at hi;subst hi;have ha:=hρ x;rw[hp]at ha;obtain⟨rfl,hv⟩:=O8 h ha hr;have he:execOp ρ' o=(do pure (.value (←Instr.fieldAt s (ρ' x) k))):=by simp only[execOp,ho]
   rw[he];exact CY.value h hv
  .cases hi
 .rename_i t x lo hi2 ho;have he:execOp ρ' o=(do pure (.value (←Instr.sliceAt t (ρ' x) (lo.map ρ') (hi2.map ρ') none))):=by simp only[execOp,ho];rfl
  have hx:=hρ x;split at hi
  .rename_i s hp;simp only[AAN]at hi;subst hi;rw[hp]at hx;obtain⟨rfl,hv⟩:=P2 h hx (Hq hρ lo) (Hq hρ hi2) hr;rw[he];exact CY.value h hv
  .rename_i b j n c hp;simp only[AAN]at hi;subst hi;rw[hp]at hx;obtain⟨rfl,hv⟩:=Vo h hx (Hq hρ lo) (Hq hρ hi2) hr;rw[he];exact CY.value h hv
  .cases hi
 .rename_i t x lo hi2 m ho;have he:execOp ρ' o=(do pure (.value (←Instr.sliceAt t (ρ' x) (lo.map ρ') (hi2.map ρ') (some (ρ' m))))):=by simp only[execOp,ho];rfl
  have hx:=hρ x;split at hi
  .rename_i b j n c hp;simp only[AAN]at hi;subst hi;rw[hp]at hx;obtain⟨rfl,hv⟩:=UR h hx (Hq hρ lo) (Hq hρ hi2) (hρ m) hr;rw[he];exact CY.value h hv
  .cases hi
 .rename_i it s ho;have he:execOp ρ' o=(do pure (.value (←Instr.next (ρ' it) s o.type))):=by simp only[execOp,ho]
  rw[he];obtain⟨v',W',h1,h2,h3,h4⟩:=ZU (P:=P) (ty:=o.type) h (hρ it) hi hr;exact CY.GX ⟨Z,v',W',h1,h2,h3,h4⟩
 .rename_i op t x y yt ho;obtain⟨rfl,hv⟩:=ZO (P:=P) (ty:=t) (px:=x) (py:=y) h (hρ x) (hρ y) hi hr;have he:execOp ρ' o=(do pure (.value (←(do eqGuard op t x y (ρ' x) (ρ' y);binOp op t (ρ' x) (ρ' y))))):=by simp only[execOp,ho]
  rw[he];exact CY.value h hv
 .rename_i s d x ho;have he:execOp ρ' o=(do pure (.value (←convert s d (ρ' x)))):=by simp only[execOp,ho]
  rw[he];exact CY.GX (R4 h (hρ x) hi hr)
 .rename_i c ho;split at hi
  .rename_i hcal;have hargs:Af Z (c.args.toList.map ρ) (c.args.map ρ').toList:=by
    rw[ABb];exact Af.map _ _ _ fun x _=>hρ x
   obtain⟨cst,hex⟩:=NF (ρ':=ρ') ho hcal;rw[hex];exact CY.GX (Tp h hargs hi hr)
  .rename_i hcal;have hargs:Af Z (c.args.toList.map ρ) (c.args.map ρ').toList:=by
    rw[ABb];exact Af.map _ _ _ fun x _=>hρ x
   obtain⟨cst,hex⟩:=NF (ρ':=ρ') ho hcal;rw[hex];exact CY.GX (VJ h hargs hi hr)
  .cases hi
 .rename_i t0 ho;exact Wi h ho hi hr
 .rename_i t0 l0 c0 ho;have he:execOp ρ' o=(do pure (.value (←Instr.makeSlice t0 (ρ' l0) (ρ' c0)))):=by simp only[execOp,ho]
  rw[he];cases hs:PZ l0 c0
  .rw[hs,AAR]at hi;exact CY.GX (Rs h (hρ l0) (hρ c0) hi hr)
  .rw[hs,AAO]at hi;have e:l0=c0:=by
    unfold PZ at hs;split at hs
    .rw[AAP hs]
    .cases hs
   subst e;exact CY.GX (YX h (hρ l0) hi hr)
 .cases hi
theorem aI(h:AH base W0 Z H W){ρ ρ':Operand->Value}(hρ:∀x,AF Z (ρ x) (ρ' x)){o:Oper}{v:Value}{H':AA}(hi:L8 P ρ o H=some (v,H')):CY P base W0 Z H W (execOp ρ' o) v H':=by
 unfold L8 at hi;split at hi
 .rename_i t ht;exact nf h hρ ht hi
 .exact gh h hρ hi
end
inductive PE where
 | op (i:Nat) (o:Oper)
 | R6 (i:Nat) (o:Oper)
inductive Cs where
 | code (c:Code)
 | inBlock (id:Nat)
 | inLoop (body:Code)
 | inScope (body:Code)
 | Ks (ops:Array Oper) (l:List Oper)
 | E0 (ops:Array Oper) (BP:List PE)
 | inRangeFunc (loop:Nat)
 | endRangeFunc (loop:Nat)
 | beginRound
structure Ae where
 fn:FuncId
 tmps:Tr Value
 n:Nat
 todo:List Cs
 defers:List Deferred
 ret:Bool
 kind:CallKind
 round:Option Nat
structure BU where
 fr:Ae
 cs:List Ae
 H:AA
abbrev DL:=AL->AA->Option (Value × AA)
structure Ctx where
 P:Program
 laid:DD
 Hp:FuncId->Option DL
 BP:Array Oper->Option (List PE)
def Bs(X:Ctx)(t:Tr Value):Operand->Value
 | .tmp i=>look t i
 | .const v=>bif flat v then v else Bo
 | .global g=>bif X.laid.any (fun p=>Nat.beq g p.1)then .pointer (some ⟨g,0,none⟩)else Bo
 | .func f=> .func (.func f) ⟨[]⟩ ⟨[]⟩
def Tl:Option Addr->Option Addr->Bool
 | none,none=>true
 | some ⟨b,o,none⟩,some ⟨c,p,none⟩=>Nat.beq b c&&Nat.beq o p
 | some ⟨b,o,some i⟩,some ⟨c,p,some j⟩=>Nat.beq b c&&Nat.beq o p&&Nat.beq i j
 | _,_=>false
def X3:Fn->Fn->Bool
 | .func f,.func g=>Nat.beq f g
 | .yield f,.yield g=>Nat.beq f g
 | _,_=>false
def ZZ:Option Nat->Option Nat->Bool
 | none,none=>true
 | some a,some b=>Nat.beq a b
 | _,_=>false
def KM(f:Value->Value->Bool):AL->AL->Bool
 | [],[]=>true
 | a::l,b::m=>f a b&&KM f l m
 | _,_=>false
def JJ:Nat->Value->Value->Bool
 | 0,_,_=>false
 | n+1,a,b=>match a,b with
  | .bool a,.bool b=>a==b
  | .int j a,.int k b=>decide (j=k)&&decide (a=b)
  | .string a,.string b=>a.data.toList==b.data.toList
  | .pointer a,.pointer b=>Tl a b
  | .slice a l c,.slice b m d=>Tl a b&&Nat.beq l m&&Nat.beq c d
  | .map a,.map b=>ZZ a b
  | .nilFunc,.nilFunc=>true
  | .nilIface,.nilIface=>true
  | .iface t v,.iface u w=>Nat.beq t u&&JJ n v w
  | .agg a,.agg b=>KM (JJ n) a.toList b.toList
  | .tuple a,.tuple b=>KM (JJ n) a.toList b.toList
  | .func f a b,.func g c d=>X3 f g&&KM (JJ n) a.toList c.toList&&KM (JJ n) b.toList d.toList
  | _,_=>false
theorem Sl:∀{a b:Option Addr},Tl a b=true->a=b:=by
 intro a b h;unfold Tl at h;split at h
 .rfl
 .simp only[AAQ]at h;rw[AAP h.1,AAP h.2]
 .simp only[AAQ]at h;rw[AAP h.1.1,AAP h.1.2,AAP h.2]
 .cases h
theorem bz{a b:Fn}(h:X3 a b=true):a=b:=by
 unfold X3 at h;split at h
 .rw[AAP h]
 .rw[AAP h]
 .cases h
theorem dY{a b:Option Nat}(h:ZZ a b=true):a=b:=by
 unfold ZZ at h;split at h
 .rfl
 .rw[AAP h]
 .cases h
theorem JU{f:Value->Value->Bool}(hf:∀a b,f a b=true->a=b):∀(l m:AL),KM f l m=true->l=m
 | [],[],_=>rfl
 | a::l,b::m,h=>by
  simp only[KM,AAQ]at h;rw[hf a b h.1,JU hf l m h.2]
 | [],_::_,h=>by simp[KM]at h
 | _::_,[],h=>by simp[KM]at h
theorem Q3:∀(n:Nat)(a b:Value),JJ n a b=true->a=b:=by
 intro n;induction n with
 | zero=>intro a b h;simp[JJ]at h
 | succ n ih=>
  intro a b h;unfold JJ at h;split at h
  .rw[eq_of_beq h]
  .simp only[AAQ,AAl]at h;rw[h.1,h.2]
  .rename_i a b;have:=Array.toList_inj.1 (eq_of_beq h);obtain⟨a⟩:=a;obtain⟨b⟩:=b;simp only at this;rw[this]
  .rw[Sl h]
  .simp only[AAQ]at h;rw[Sl h.1.1,AAP h.1.2,AAP h.2]
  .rw[dY h]
  .rfl
  .rfl
  .simp only[AAQ]at h;rw[AAP h.1,ih _ _ h.2]
  .rw[Array.toList_inj.1 (JU ih _ _ h)]
  .rw[Array.toList_inj.1 (JU ih _ _ h)]
  .simp only[AAQ]at h;rw[bz h.1.1,Array.toList_inj.1 (JU ih _ _ h.1.2),Array.toList_inj.1 (JU ih _ _ h.2)]
  .cases h
def VO{α:Type}(n:Int)(k:Int->α):α:=
 Int.casesOn n (fun m=>Nat.casesOn (motive:=fun _=>α) m (k (.ofNat 0)) fun p=>k (.ofNat (p+1))) (fun m=>Nat.casesOn (motive:=fun _=>α) m (k (.negSucc 0)) fun p=>k (.negSucc (p+1)))
theorem XZ{α:Type}(n:Int)(k:Int->α):VO n k=k n:=by
 cases n with
 | ofNat m=>cases m<;>rfl
 | negSucc m=>cases m<;>rfl
def Zl{α:Type}(v:Value)(k:Value->α):α:=
 match v with
 | .int kd n=>VO n fun n=>k (.int kd n)
 | .bool b=>bif b then k (.bool true)else k (.bool false)
 | v=>k v
theorem LG{α:Type}(v:Value)(k:Value->α):Zl v k=k v:=by
 unfold Zl;split
 .rw[XZ]
 .rename_i b;cases b<;>rfl
 .rfl
def CL(f:Ae)(v:Value):Option Ae:=
 Zl v fun v=>
 match f with
 | ⟨fn,t,n,todo,ds,r,kd,rd⟩=>
  match todo with
  | .Ks ops (o::rest)::k=>
   match o.dst with
   | some d=>bif Nat.blt d n then some ⟨fn,t.put d (some v),n,.Ks ops rest::k,ds,r,kd,rd⟩else none
   | none=>some ⟨fn,t,n,.Ks ops rest::k,ds,r,kd,rd⟩
  | .E0 ops (.op _ o::rest)::k=>
   match o.dst with
   | some d=>bif Nat.blt d n then some ⟨fn,t.put d (some v),n,.E0 ops rest::k,ds,r,kd,rd⟩else none
   | none=>some ⟨fn,t,n,.E0 ops rest::k,ds,r,kd,rd⟩
  | .inRangeFunc l::k=>some ⟨fn,t,n,.endRangeFunc l::k,ds,r,kd,rd⟩
  | .beginRound::k=>some ⟨fn,t,n,k,ds,r,kd,rd⟩
  | _=>none
def Jb(id:Nat):List Cs->Option (List Cs)
 | []=>none
 | x::k=>match x with
  | .inBlock id'=>bif Nat.beq id' id then some k else Jb id k
  | _=>Jb id k
def CP:Nat->AL->Tr Value->Tr Value
 | _,[],t=>t
 | i,v::r,t=>CP (i+1) r (t.put i (some v))
def entry(P:Program)(f:FuncId):Option (Nat × Code):=
 match P.funcs[f]? with
 | some fn=>match fn.body with
  | some c=>bif fn.name== "runtime.NumGoroutine" then none else some (fn.ntmps,c)
  | none=>none
 | none=>none
def B3(X:Ctx)(f:FuncId)(args:AL)(kind:CallKind)(H:AA):Option (Value × AA):=
 match X.Hp f with
 | some F=>match kind with
  | .normal=>F args H
  | _=>none
 | none=>none
def ID(X:Ctx)(f:FuncId)(args:AL)(kind:CallKind)(fr:Ae)(cs:List Ae)(H:AA):Option BU:=
 match B3 X f args kind H with
 | some (v,H')=>match CL fr v with
  | some fr'=>some ⟨fr',cs,H'⟩
  | none=>none
 | none=>match entry X.P f with
  | some (n,c)=>bif Nat.ble args.length n then some ⟨⟨f,CP 0 args .leaf,n,[.code c],[],false,kind,none⟩,fr::cs,H⟩else none
  | none=>match kind with
   | .normal=>bif args.all flat then
    match NN X.P (callFunc f ⟨args⟩)with
    | some (.value v)=>bif flat v then
     match CL fr v with
     | some fr'=>some ⟨fr',cs,H⟩
     | none=>none
     else none
    | _=>none
    else none
   | _=>none
def Hv:List Tmp->AL->Tr Value->Tr Value
 | p::ps,v::vs,t=>Hv ps vs (t.put p (some v))
 | _,_,t=>t
def YT(l:Nat)(args:AL)(fr:Ae)(cs:List Ae)(H:AA):Option BU:=
 match H.get l with
 | some (.loop r)=>bif Nat.beq args.length r.params.size&&r.params.toList.all (fun p=>Nat.blt p r.n)then
  some ⟨⟨r.fn,Hv r.params.toList args r.tmps,r.n,[.code r.assign,.beginRound,.code r.body],[],false,.normal,some l⟩,fr::cs,H⟩else none
 | _=>none
def NJ(X:Ctx)(f:Value)(args:AL)(fr:Ae)(cs:List Ae)(H:AA):Option BU:=
 match f with
 | .func (.func g) first captured=>ID X g (first.toList++args++captured.toList) .normal fr cs H
 | .func (.yield l) first _=>YT l (first.toList++args) fr cs H
 | _=>none
def Ir(kind:CallKind)(v:Value)(cs:List Ae)(H:AA):Option BU:=
 match cs with
 | []=>none
 | c::rest=>match kind with
  | .normal=>match CL c v with
   | some c'=>some ⟨c',rest,H⟩
   | none=>none
  | .deferred=>bif c.ret then some ⟨c,rest,H⟩else none
  | _=>none
def Ro(jump:Option Code)(fr:Ae)(cs:List Ae)(H:AA):Option BU:=
 match fr with
 | ⟨fn,t,n,todo,ds,_,kd,rd⟩=>
  match rd with
  | none=>match jump with
   | none=>some ⟨⟨fn,t,n,todo,ds,true,kd,none⟩,cs,H⟩
   | some .ret=>some ⟨⟨fn,t,n,todo,ds,true,kd,none⟩,cs,H⟩
   | _=>none
  | some l=>match H.get l with
   | some (.loop r)=>match jump with
    | none=>Ir kd (.bool true) cs (H.put l (.loop { r with state:= .ready,pending:=none }))
    | some j=>Ir kd (.bool false) cs (H.put l (.loop { r with state:= .done,pending:=some j }))
   | _=>none
def HJ(ops:Array Oper)(j:Nat):Option Tmp:=
 match ops.toList[j]? with
 | some o=>o.dst
 | none=>none
def DK(ops:Array Oper)(o:Oper)(t:Tr Value):Option Bool:=
 match o.guard with
 | none=>some true
 | some (j,want)=>match HJ ops j with
  | some d=>match look t d with
   | .bool b=>some (bif want then b else !b)
   | .tuple _=>some false
   | _=>none
  | none=>some false
def isRec:Builtin->Bool
 | .recover=>true
 | _=>false
def sS(fr:Ae)(cs:List Ae)(H:AA):Option BU:=
 match fr.round with
 | some _=>none
 | none=>match fr.kind with
  | .normal=>match CL fr .nilIface with
   | some fr'=>some ⟨fr',cs,H⟩
   | none=>none
  | .deferred=>match cs with
   | []=>none
   | _::_=>match CL fr .nilIface with
    | some fr'=>some ⟨fr',cs,H⟩
    | none=>none
  | _=>none
def Lr(X:Ctx)(o:Oper)(fr:Ae)(cs:List Ae)(H:AA):Option BU:=
 match o.op with
 | .call c=>match c.callee with
  | .builtin b=>bif isRec b then sS fr cs H else match L8 X.P (Bs X fr.tmps) o H with
   | some (v,H')=>match CL fr v with
    | some fr'=>some ⟨fr',cs,H'⟩
    | none=>none
   | none=>none
  | .value f=>NJ X (Bs X fr.tmps f) (c.args.toList.map (Bs X fr.tmps)) fr cs H
  | _=>none
 | .defer c=>match fr.round,c.callee with
  | none,.value f=>match Bs X fr.tmps f with
   | .func fn first captured=>match CL { fr with defers:={ target:= .fn fn captured,args:=⟨first.toList++c.args.toList.map (Bs X fr.tmps)⟩ }::fr.defers } Go.undef with
    | some fr'=>some ⟨fr',cs,H⟩
    | none=>none
   | _=>none
  | _,_=>none
 | _=>match L8 X.P (Bs X fr.tmps) o H with
  | some (v,H')=>match CL fr v with
   | some fr'=>some ⟨fr',cs,H'⟩
   | none=>none
  | none=>none
def valOf(X:Ctx)(t:Tr Value)(H:AA):ResultVar->DJ
 | .tmp i=>some (look t i)
 | .cell a ty=>NB X.P ty (look t a) H
def OC(X:Ctx)(t:Tr Value)(H:AA):List ResultVar->Option (AL)
 | []=>some []
 | r::rs=>match valOf X t H r,OC X t H rs with
  | some v,some l=>some (v::l)
  | _,_=>none
def KU(X:Ctx)(f:FuncId)(t:Tr Value)(H:AA):DJ:=
 match X.P.funcs[f]? with
 | some fn=>match OC X t H fn.results.toList with
  | some [v]=>some v
  | some l=>some (.tuple ⟨l⟩)
  | none=>none
 | none=>none
def NL(X:Ctx)(fr:Ae)(cs:List Ae)(H:AA):Option BU:=
 match fr with
 | ⟨fn,t,n,todo,ds,r,kd,rd⟩=>
  match ds with
  | []=>match KU X fn t H with
   | some v=>Ir kd v cs H
   | none=>none
  | d::rest=>match d with
   | ⟨yH,args⟩=>match yH with
    | .collected b=>match H.get b with
     | some (.deferred (some l))=>some ⟨⟨fn,t,n,todo,l++rest,r,kd,rd⟩,cs,H.put b (.deferred none)⟩
     | _=>none
    | .fn (.func g) captured=>ID X g (args.toList++captured.toList) .deferred ⟨fn,t,n,todo,rest,r,kd,rd⟩ cs H
    | _=>none
def Eb(X:Ctx)(c:BU):Option BU:=
 match c with
 | ⟨⟨fn,t,n,todo,ds,r,kd,rd⟩,cs,H⟩=>
  bif r then NL X ⟨fn,t,n,todo,ds,r,kd,rd⟩ cs H else
  match todo with
  | []=>Ro none ⟨fn,t,n,todo,ds,r,kd,rd⟩ cs H
  | it::k=>
   match it with
   | .Ks ops l=>match l with
    | []=>some ⟨⟨fn,t,n,k,ds,r,kd,rd⟩,cs,H⟩
    | o::_=>match DK ops o t with
     | some true=>Lr X o ⟨fn,t,n,todo,ds,r,kd,rd⟩ cs H
     | some false=>match CL ⟨fn,t,n,todo,ds,r,kd,rd⟩ Go.undef with
      | some fr'=>some ⟨fr',cs,H⟩
      | none=>none
     | none=>none
   | .E0 ops l=>match l with
    | []=>some ⟨⟨fn,t,n,k,ds,r,kd,rd⟩,cs,H⟩
    | .R6 _ o::rest=>match DK ops o t with
     | some true=>match o.dst,L8 X.P (Bs X t) o H with
      | some d,some (v,_)=>bif JJ 8 v (look t d)then some ⟨⟨fn,t,n,.E0 ops rest::k,ds,r,kd,rd⟩,cs,H⟩else none
      | _,_=>none
     | some false=>some ⟨⟨fn,t,n,.E0 ops rest::k,ds,r,kd,rd⟩,cs,H⟩
     | none=>none
    | .op _ o::_=>match DK ops o t with
     | some true=>Lr X o ⟨fn,t,n,todo,ds,r,kd,rd⟩ cs H
     | some false=>match CL ⟨fn,t,n,todo,ds,r,kd,rd⟩ Go.undef with
      | some fr'=>some ⟨fr',cs,H⟩
      | none=>none
     | none=>none
   | .code c=>match c with
    | .seq a b=>some ⟨⟨fn,t,n,.code a:: .code b::k,ds,r,kd,rd⟩,cs,H⟩
    | .region _ ops false=>some ⟨⟨fn,t,n,.Ks ops ops.toList::k,ds,r,kd,rd⟩,cs,H⟩
    | .region _ ops true=>match X.BP ops with
     | some p=>some ⟨⟨fn,t,n,.E0 ops p::k,ds,r,kd,rd⟩,cs,H⟩
     | none=>none
    | .cond c a b=>match Bs X t c with
     | .bool x=>some ⟨⟨fn,t,n,.code (bif x then a else b)::k,ds,r,kd,rd⟩,cs,H⟩
     | _=>none
    | .skip=>some ⟨⟨fn,t,n,k,ds,r,kd,rd⟩,cs,H⟩
    | .label _=>some ⟨⟨fn,t,n,k,ds,r,kd,rd⟩,cs,H⟩
    | .block id b=>some ⟨⟨fn,t,n,.code b:: .inBlock id::k,ds,r,kd,rd⟩,cs,H⟩
    | .loop b=>some ⟨⟨fn,t,n,.code b:: .inLoop b::k,ds,r,kd,rd⟩,cs,H⟩
    | .scope b=>some ⟨⟨fn,t,n,.code b:: .inScope b::k,ds,r,kd,rd⟩,cs,H⟩
    | .exit id=>match Jb id k with
     | some k'=>some ⟨⟨fn,t,n,k',ds,r,kd,rd⟩,cs,H⟩
     | none=>Ro (some (.exit id)) ⟨fn,t,n,todo,ds,r,kd,rd⟩ cs H
    | .ret=>Ro (some .ret) ⟨fn,t,n,todo,ds,r,kd,rd⟩ cs H
    | .rangeFunc f params assign body=>
     match rd with
     | some l=>match H.get l with
      | some (.loop q)=>
       NJ X (Bs X t f) [.func (.yield H.next) ⟨[]⟩ ⟨[]⟩] ⟨fn,t,n,.inRangeFunc H.next::k,ds,r,kd,rd⟩ cs
        (H.alloc (.loop ⟨.ready,none,fn,t,n,params,assign,body,q.defers⟩))
      | _=>none
     | none=>
      NJ X (Bs X t f) [.func (.yield (H.next+1)) ⟨[]⟩ ⟨[]⟩] ⟨fn,t,n,.inRangeFunc (H.next+1)::k,{ target:= .collected H.next,args:=⟨[]⟩ }::ds,r,kd,rd⟩ cs
       ((H.alloc (.deferred (some []))).alloc (.loop ⟨.ready,none,fn,t,n,params,assign,body,H.next⟩))
    | _=>none
   | .inBlock _=>some ⟨⟨fn,t,n,k,ds,r,kd,rd⟩,cs,H⟩
   | .inScope _=>some ⟨⟨fn,t,n,k,ds,r,kd,rd⟩,cs,H⟩
   | .inLoop b=>some ⟨⟨fn,t,n,.code b:: .inLoop b::k,ds,r,kd,rd⟩,cs,H⟩
   | .beginRound=>match rd with
    | some l=>match H.get l with
     | some (.loop q)=>match q.state with
      | .ready=>some ⟨⟨fn,t,n,k,ds,r,kd,rd⟩,cs,H.put l (.loop { q with state:= .busy })⟩
      | _=>none
     | _=>none
    | none=>none
   | .endRangeFunc l=>match H.get l with
    | some (.loop q)=>match q.state with
     | .busy=>none
     | _=>match q.pending with
      | none=>some ⟨⟨fn,t,n,k,ds,r,kd,rd⟩,cs,H.put l (.loop { q with state:= .exhausted })⟩
      | some j=>some ⟨⟨fn,t,n,.code j::k,ds,r,kd,rd⟩,cs,H.put l (.loop { q with state:= .exhausted })⟩
    | _=>none
   | .inRangeFunc _=>none
def b9(X:Ctx)(fuel:Nat):BU->Option BU:=
 Nat.rec (motive:=fun _=>BU->Option BU) (fun c=>some c) (fun _ ih c=>match Eb X c with
  | some c'=>ih c'
  | none=>none) fuel
abbrev Cy:=BU->Prop
def F7(o:Oper):AP:=(o.after.toList.filter (Region.binds .any)).map (·.on)
def CI(P:Program)(o:Oper):Nat:=
 match o.op with
 | .move _ | .pick _ _ _ | .extract _ _ | .nilCheck _ | .makeFunc _ _ _ | .makeInterface _ _ | .load _ _ | .build _ _ | .slice _ _ _ _ _ | .fieldAddr _ _ _ | .field _ _ _ | .indexAddr _ _ _ | .index _ _ _ | .binOp _ _ _ _ _ | .unOp _ _ _=>0
 | .convert _ d _=>match P.underlying d with
  | some (.slice _)=>2
  | _=>0
 | .call c=>match c.callee with
  | .builtin .len=>0
  | .builtin .min=>0
  | .builtin .max=>0
  | _=>2
 | .alloc t=>bif (Xw P t).isSome then 2 else 1
 | .makeSlice t _ _=>bif FU P t then 2 else 1
 | .box _ _ | .buildSlice _ _ _=>1
 | _=>2
def Sw(ops:List Oper):Nat->AP->AP->AP
 | 0,_,seen=>seen
 | f+1,todo,seen=>match todo with
  | []=>seen
  | i::r=>bif seen.any (Nat.beq i)then Sw ops f r seen else
   match ops[i]? with
   | some o=>Sw ops f (F7 o++r) (i::seen)
   | none=>Sw ops f r seen
def Jy(ops:List Oper)(o:Oper):AP:=Sw ops (ops.length * ops.length * 4+4) (F7 o) []
def fM(done:AP)(o:Oper):Bool:=(F7 o).all fun d=>done.any (Nat.beq d)
def Y0(P:Program)(ops:List Oper)(done:AP)(x:Oper):List PE:=
 let ZJ:=Jy ops x
 done.filterMap fun j=>match ops[j]? with
  | some o=>bif Nat.beq (CI P o) 0&& !(ZJ.any (Nat.beq j))then some (.R6 j o)else none
  | none=>none
def N8(P:Program)(ops:List Oper):Nat->AP->Option (List PE)
 | 0,done=>bif Nat.beq done.length ops.length then some []else none
 | f+1,done=>
  match (ops.zipIdx.find? fun(o,i)=> !(done.any (Nat.beq i))&&fM done o&& !(Nat.beq (CI P o) 2))with
  | some (o,i)=>(N8 P ops f (i::done)).map (PE.op i o::·)
  | none=>match (ops.zipIdx.find? fun(o,i)=> !(done.any (Nat.beq i))&&fM done o)with
   | some (o,i)=>(N8 P ops f (i::done)).map fun r=>PE.op i o::(Y0 P ops done o++r)
   | none=>none
def NU(l:AP)(i:Nat):Bool:=l.any (Nat.beq i)
def FA(ops:Array Oper)(o:Oper):List Tmp:=
 (o.op.operands.toList.filterMap fun x=>match x with | .tmp t=>some t | _=>none)++(match o.guard with | some (j,_)=>(HJ ops j).toList | none=>[])
def Ph:Option Tmp->Option Tmp->Bool
 | some a,some b=>Nat.beq a b
 | _,_=>false
def MI(P:Program)(ops:Array Oper):Bool:=
 ops.toList.zipIdx.all fun(o,i)=>
  (FA ops o).all (fun u=>ops.toList.zipIdx.all fun(oj,j)=> !(Ph oj.dst (some u))||NU (F7 o) j||(Nat.beq (CI P oj) 2&&NU (Jy ops.toList oj) i))&&
  (Nat.beq (CI P o) 2||o.dst.isSome)&&
  ops.toList.zipIdx.all fun(oj,j)=>Nat.beq i j|| !(Ph o.dst oj.dst)
def lead:List PE->AP
 | .R6 i _::r=>i::lead r
 | _=>[]
def Ev(P:Program)(ops:Array Oper):AP->List PE->Bool
 | D,[]=>(List.range ops.size).all (NU D)
 | D,.op i o::rest=> !(NU D i)&&(F7 o).all (NU D)&&
  (bif Nat.beq (CI P o) 2 then
   (ops.toList.zipIdx.all fun(oj,j)=>NU D j||Nat.beq j i||NU (Jy ops.toList oj) i)&&
   (D.all fun j=>match ops.toList[j]? with
    | some oj=> !(Nat.beq (CI P oj) 0)||NU (Jy ops.toList o) j||NU (lead rest) j
    | none=>true)
  else true)&&Ev P ops (i::D) rest
 | D,.R6 j _::rest=>NU D j&&Ev P ops D rest
def MN(P:Program)(ops:Array Oper):Option (List PE):=
 match N8 P ops.toList ops.size []with
 | some p=>bif MI P ops&&Ev P ops [] p then some p else none
 | none=>none
section
variable {P:Program}{base:Env}{W0:World}{Z:AW}{H:AA}{W:World}
theorem Q6{ρ ρ2:Operand->Value}(l:List Operand)(h:∀x∈l,ρ x=ρ2 x):l.all (fun x=>flat (ρ x))=l.all (fun x=>flat (ρ2 x)):=by
 induction l with
 | nil=>rfl
 | cons a l ih=>simp only[ABN];rw[h a (by simp),ih fun x hx=>h x (by simp[hx])]
theorem VW{ρ ρ2:Operand->Value}(o:Oper)(h:∀x∈o.op.operands,ρ x=ρ2 x):IL P ρ o H=IL P ρ2 o H:=by
 unfold IL;rw[Q6 o.op.operands.toList (fun x hx=>h x (by simpa using hx))];cases hs:JE o.op
 .rw[execOp_congr o (fun cs b e=>by rw[e]at hs;simp[JE]at hs) h]
 .simp
theorem OT{ρ ρ2:Operand->Value}(l:List (Nat × Operand))(h:∀p∈l,ρ p.2=ρ2 p.2):
 l.all (fun p=>Ei (ρ p.2))=l.all (fun p=>Ei (ρ2 p.2))/\(l.map fun p=>(p.1,ρ p.2))=(l.map fun p=>(p.1,ρ2 p.2)):=by
 induction l with
 | nil=>exact⟨rfl,rfl⟩
 | cons a l ih=>
  obtain⟨h1,h2⟩:=ih fun p hp=>h p (by simp[hp])
  simp only[ABN,AAn];rw[h a (by simp),h1,h2];exact⟨rfl,rfl⟩
theorem Jt{ρ ρ2:Operand->Value}(l:List Operand)(h:∀x∈l,ρ x=ρ2 x):l.map ρ=l.map ρ2:=AB9 h
theorem Yd{ρ ρ2:Operand->Value}(o:Oper)(h:∀x∈o.op.operands,ρ x=ρ2 x):O2 P ρ o H=O2 P ρ2 o H:=by
 have hfl:=VW (P:=P) (H:=H) o h;unfold O2;cases hop:o.op<;>rw[hop]at h<;>simp only[Op.operands]at h
 case move x=>simp only[h x (by simp)]
 case assign x=>simp only[h x (by simp)]
 case pick c a b=>simp only[h c (by simp),h a (by simp),h b (by simp)]
 case extract t i=>simp only[h t (by simp)]
 case nilCheck x=>simp only[h x (by simp)]
 case makeFunc fn first captured=>
  simp only[Jt first.toList (fun x hx=>h x (by simp at hx;simp[hx])),Jt captured.toList (fun x hx=>h x (by simp at hx;simp[hx]))]
 case makeInterface t x=>simp only[h x (by simp)]
 case load t a=>simp only[h a (by simp)]
 case store t a x=>simp only[h a (by simp),h x (by simp)]
 case box t x=>simp only[h x (by simp)]
 case build t ps=>
  obtain⟨h1,h2⟩:=OT (ρ:=ρ) (ρ2:=ρ2) ps.toList (fun p hp=>h p.2 (by simp;exact⟨p.1,by simpa using hp⟩));simp only[h1,h2]
 case buildSlice t n ps=>
  obtain⟨h1,h2⟩:=OT (ρ:=ρ) (ρ2:=ρ2) ps.toList (fun p hp=>h p.2 (by simp;exact⟨p.1,by simpa using hp⟩));simp only[h1,h2]
 case makeSlice t l c=>simp only[h l (by simp),h c (by simp)]
 case slice t x lo hi mx=>
  have hx:=h x (by simp);have h1:lo.map ρ=lo.map ρ2:=by cases lo with | none=>rfl | some y=>simp[h y (by simp)]
  have h2:hi.map ρ=hi.map ρ2:=by cases hi with | none=>rfl | some y=>simp[h y (by simp)]
  have h3:mx.map ρ=mx.map ρ2:=by cases mx with | none=>rfl | some y=>simp[h y (by simp)]
  simp only[hx,h1,h2,h3]
 case fieldAddr s x k=>simp only[h x (by simp)]
 case field s x k=>simp only[h x (by simp)]
 case indexAddr t x i=>simp only[h x (by simp),h i (by simp)]
 case index t x i=>simp only[h x (by simp),h i (by simp)]
 case range t x=>simp only[h x (by simp)]
 case next it s=>simp only[h it (by simp)]
 case binOp op t x y yt=>simp only[hfl,h x (by simp),h y (by simp)]
 case convert s d x=>simp only[hfl,h x (by simp)]
 case unOp=>exact hfl
 case call c=>
  simp only;cases hc:c.callee with
  | builtin b=>
   simp only;have hargs:c.args.toList.map ρ=c.args.toList.map ρ2:=Jt _ fun x hx=>h x (by simp[Call.operands,hc];simpa using hx)
   have harg1:∀x,c.args.toList=[x]->ρ x=ρ2 x:=fun x hx=>h x (by
    have:x∈c.args:=by rw[<-Array.mem_toList_iff,hx];simp
    simp[Call.operands,hc,this])
   unfold Ke;cases b<;>simp only[hargs,hfl]
   case len=>
    split
    .rename_i t r x ht hx;rw[harg1 x hx]
    .rfl
  | value f=>rfl
  | invoke r m=>rfl
 all_goals rfl
def KC(H H2:AA):Prop:=∀b o,H.get b=some o->H2.get b=some o
theorem KC.alloc(hH:AH base W0 Z H W)(o:AJ):KC H (H.alloc o):=by
 intro b p hb;rw[AA.AN,AAW]
 .exact hb
 .rintro rfl;rw[(hH.fresh _ (AAT _)).1]at hb;cases hb
theorem bt{H2:AA}(he:KC H H2){t:TypeId}{a v:Value}(h:NB P t a H=some v):NB P t a H2=some v:=by
 unfold NB at h ⊢;split at h
 .split at h
  .rename_i cs e ro hb;simp only[he _ _ hb];exact h
  .cases h
 .cases h
theorem jJ{H2:AA}(he:KC H H2){sz:Nat}{x:Value}{r:Nat × AL}(h:Ek sz x H=some r):Ek sz x H2=some r:=by
 unfold Ek at h ⊢;split at h
 .exact h
 .rename_i b off n c;cases hz:Nat.beq (n * sz) 0
  .simp only[hz,AAR]at h ⊢;split at h
   .rename_i cs e ro hb;simp only[he _ _ hb];exact h
   .cases h
  .simp only[hz,AAO]at h ⊢;exact h
 .exact h
 .cases h
theorem Ys{H2:AA}(he:KC H H2){t:TypeId}{x v:Value}{lo hi mx:DJ}(h:Jd P t x lo hi mx H=some v):Jd P t x lo hi mx H2=some v:=by
 unfold Jd at h ⊢;split at h
 .exact h
 .exact h
 .exact h
 .rename_i e b off len cap hu;split at h
  .rename_i sz hsz;cases hc:Nat.blt cap AT
   .simp only[hc,AAR]at h ⊢;split at h
    .rename_i cs e2 ro hb;simp only[he _ _ hb];exact h
    .cases h
   .simp only[hc,AAO]at h ⊢;exact h
  .cases h
 .cases h
theorem Gr{ρ:Operand->Value}{o:Oper}{v:Value}{H1:AA}(h:IL P ρ o H=some (v,H1)):H1=H/\∀H2,IL P ρ o H2=some (v,H2):=by
 unfold IL at h ⊢;cases hc:(o.op.operands.toList.all (fun x=>flat (ρ x))&& !(JE o.op))
 .simp only[hc,AAR]at h;cases h
 .simp only[hc,AAO]at h ⊢;split at h
  .rename_i w hw;cases hf:flat w
   .simp[hf]at h
   .simp only[hf,AAO,AAN,AAm]at h ⊢;exact⟨h.2.symm,fun H2=>by simp[h.1]⟩
  .cases h
theorem cj{ρ:Operand->Value}{o:Oper}{v:Value}{H1:AA}(hcls:CI P o=0)(h:O2 P ρ o H=some (v,H1)):H1=H/\∀H2,KC H H2->O2 P ρ o H2=some (v,H2):=by
 unfold CI at hcls;unfold O2 at h ⊢;cases hop:o.op<;>rw[hop]at hcls<;>simp only[hop]at h ⊢
 case makeSlice t0 _ _=>cases hb:FU P t0<;>simp[hb]at hcls
 case alloc t0=>cases hb:(Xw P t0).isSome<;>simp[hb]at hcls
 case move x=>cases h;exact⟨rfl,fun _ _=>rfl⟩
 case assign x=>cases h;exact⟨rfl,fun _ _=>rfl⟩
 case pick c a b=>
  split at h
  .cases h;exact⟨rfl,fun _ _=>rfl⟩
  .cases h
 case extract t i=>
  split at h
  .split at h
   .cases h;exact⟨rfl,fun _ _=>rfl⟩
   .cases h
  .cases h
 case nilCheck x=>
  split at h
  .cases h;exact⟨rfl,fun _ _=>rfl⟩
  .cases h;exact⟨rfl,fun _ _=>rfl⟩
  .cases h;exact⟨rfl,fun _ _=>rfl⟩
  .cases h
 case makeFunc fn a b=>
  split at h
  .cases h
  .cases h;exact⟨rfl,fun _ _=>rfl⟩
 case makeInterface t x=>
  split at h
  .cases h
  .cases h;exact⟨rfl,fun _ _=>rfl⟩
  .cases h
 case load t a=>
  split at h
  .rename_i w hw;cases h
   exact⟨rfl,fun H2 he=>by rw[bt he hw]⟩
  .cases h
 case build t ps=>
  cases hn:ps.toList.all (fun p=>Ei (ρ p.2))
  .simp only[hn,AAR]at h;cases h
  .simp only[hn,AAO]at h ⊢;split at h
   .cases h;exact⟨rfl,fun _ _=>rfl⟩
   .cases h
 case slice t x lo hi mx=>
  split at h
  .rename_i w hw;cases h
   exact⟨rfl,fun H2 he=>by rw[Ys he hw]⟩
  .cases h
 case fieldAddr=>
  split at h
  .cases h;exact⟨rfl,fun _ _=>rfl⟩
  .cases h
 case field=>
  split at h
  .cases h;exact⟨rfl,fun _ _=>rfl⟩
  .cases h
 case indexAddr=>
  split at h
  .cases h;exact⟨rfl,fun _ _=>rfl⟩
  .cases h
 case index=>
  split at h
  .cases h;exact⟨rfl,fun _ _=>rfl⟩
  .cases h
 case binOp op t x y yt=>
  split at h
  .rename_i r hr;cases h
   obtain⟨h1,h2⟩:=Gr hr;exact⟨h1,fun H2 _=>by rw[h2 H2]⟩
  .rename_i hn;split at h
   .rename_i w hw;cases h
    refine⟨rfl,fun H2 _=>?_⟩;cases hq:IL P ρ o H2 with
    | none=>rfl
    | some r=>
     obtain⟨r1,r2⟩:=r;rw[(Gr hq).2 H]at hn;cases hn
   .cases h
 case unOp=>
  obtain⟨h1,h2⟩:=Gr h;exact⟨h1,fun H2 _=>h2 H2⟩
 case convert s d x=>
  split at h
  .rename_i r hr;cases h
   obtain⟨h1,h2⟩:=Gr hr;exact⟨h1,fun H2 _=>by rw[h2 H2]⟩
  .rename_i hn;have hkeep:∀H2,IL P ρ o H2=none:=by
    intro H2;cases hq:IL P ρ o H2 with
    | none=>rfl
    | some r=>
     obtain⟨r1,r2⟩:=r;rw[(Gr hq).2 H]at hn;cases hn
   unfold JF at h ⊢;split at h
   .rename_i e a n c hu1 hu2;split at h
    .split at h
     .cases h
      exact⟨rfl,fun H2 _=>by simp only[hkeep H2]⟩
     .split at h
      .rename_i m l hs;split at h
       .rename_i ns OP;cases h
        exact⟨rfl,fun H2 he=>by simp only[hkeep H2,jJ he hs,OP]⟩
       .cases h
      .cases h
    .cases h
   .rename_i e s hu1 hu2 hx;simp only[hu2]at hcls;cases hcls
   .cases h
 case call c=>
  cases hc:c.callee with
  | builtin b=>
   simp only[hc]at h hcls ⊢;unfold Ke at h ⊢;cases b<;>simp at hcls<;>simp only at h ⊢
   case len=>
    split at h
    .split at h
     .cases h;exact⟨rfl,fun _ _=>rfl⟩
     .cases h
    .cases h
   all_goals (obtain⟨h1,h2⟩:=Gr h;exact⟨h1,fun H2 _=>h2 H2⟩)
  | value f=>simp only[hc]at h;cases h
  | invoke r m=>simp only[hc]at h;cases h
 all_goals first | (cases h;done) | (simp at hcls;done)
theorem bR{ρ ρ2:Operand->Value}(o:Oper)(h:∀x∈o.op.operands,ρ x=ρ2 x):Us P ρ o H=Us P ρ2 o H:=by
 unfold Us;cases hop:o.op<;>rw[hop]at h<;>simp only[Op.operands]at h
 case load t a=>simp only[h a (by simp)]
 case store t a x=>simp only[h a (by simp),h x (by simp)]
 case slice t x lo hi mx=>
  have hx:=h x (by simp);have h1:lo.map ρ=lo.map ρ2:=by cases lo with | none=>rfl | some y=>simp[h y (by simp)]
  have h2:hi.map ρ=hi.map ρ2:=by cases hi with | none=>rfl | some y=>simp[h y (by simp)]
  cases mx with
  | none=>simp only[hx,h1,h2]
  | some y=>have hy:=h y (by simp);simp only[hx,h1,h2,hy]
 case makeSlice t0 l0 c0=>simp only[h l0 (by simp),h c0 (by simp)]
 case fieldAddr s x k=>simp only[h x (by simp)]
 case indexAddr t x i=>simp only[h x (by simp),h i (by simp)]
 case index t x i=>simp only[h x (by simp),h i (by simp)]
 case next it s=>simp only[h it (by simp)]
 case binOp op t x y yt=>simp only[h x (by simp),h y (by simp)]
 case convert s d x=>simp only[h x (by simp)]
 case call c=>
  simp only;cases hc:c.callee with
  | builtin b=>
   have hargs:c.args.toList.map ρ=c.args.toList.map ρ2:=Jt _ fun x hx=>h x (by simp[Call.operands,hc];simpa using hx)
   cases b<;>simp only[hargs]
  | value f=>rfl
  | invoke r m=>rfl
 all_goals rfl
theorem JC{ρ ρ2:Operand->Value}(o:Oper)(h:∀x∈o.op.operands,ρ x=ρ2 x):L8 P ρ o H=L8 P ρ2 o H:=by
 unfold L8;rw[bR o h,Yd o h]
theorem WI{H2:AA}(he:KC H H2){t:TypeId}{b o i:Nat}{v:Value}{H1:AA}(h:(Ij P t b o i H).run=some (v,H1)):H1=H/\(Ij P t b o i H2).run=some (v,H2):=by
 unfold Ij at h ⊢;split at h
 .rename_i k l ro hb;simp only[he _ _ hb];split at h
  .rename_i d n hd hn;try simp only[hd,hn]
   cases hon:Nat.ble (o+n) k.length
   .simp[hon,VT.run]at h
   .simp only[hon,AAO]at h ⊢;cases hag:Ej d
    .simp only[hag,AAR]at h ⊢;split at h
     .rename_i v0 hv0;cases hsl:Wk d
      .simp only[hsl,AAR]at h ⊢;obtain⟨h1,h2⟩:=A3 h;obtain⟨rfl,rfl⟩:=BC h2;simp only[h1,VT.run,AAO,ACF]
      .simp only[hsl,AAO]at h ⊢;obtain⟨h1,h2⟩:=A3 h;obtain⟨rfl,rfl⟩:=BC h2;simp only[h1,VT.run,AAO,ACF]
     .cases h
    .simp only[hag,AAO]at h ⊢;obtain⟨h1,h2⟩:=A3 h;obtain⟨rfl,rfl⟩:=BC h2;simp only[h1,VT.run,AAO,ACF]
  .cases h
 .cases h
theorem Yl{H2:AA}(he:KC H H2){t:TypeId}{b o i:Nat}{v:Value}{H1:AA}(h:(It P t b o i H).run=some (v,H1)):H1=H/\(It P t b o i H2).run=some (v,H2):=by
 obtain⟨h1,h2⟩:=A3 h;obtain⟨h3,h4⟩:=WI he h2;exact⟨h3,by show(VT.test _ _ _).run=_;rw[h1];exact h4⟩
theorem Vr{t:TypeId}{x:Value}{k:IntKind}{m:Int}(H2:AA){v:Value}{H1:AA}:∀n,(YS P t x k m H n).run=some (v,H1)->H1=H/\(YS P t x k m H2 n).run=some (v,H2)
 | 0,h=>by cases h
 | j+1,h=>by
  unfold YS at h ⊢;split at h
  .cases h2:(m== .ofNat j)
   .rw[h2]at h;exact Vr H2 j h
   .rw[h2]at h;cases h;exact⟨rfl,rfl⟩
  .cases h
theorem Sk{t:TypeId}{x ix:Value}{tr:VT}(h:MY P t x ix H=some tr)(H2:AA):∃t2,MY P t x ix H2=some t2/\∀v H1,tr.run=some (v,H1)->H1=H/\t2.run=some (v,H2):=by
 unfold MY at h ⊢;split at h
 .rename_i b off n c k m;cases hn:Nat.ble n 12
  .simp only[hn,AAR]at h;cases h
  .simp only[hn,AAO,AAN]at h ⊢;subst h;exact⟨_,rfl,fun v H1 hr=>Vr H2 n hr⟩
 .cases h
theorem YN{t:TypeId}{x ix:Value}(h:MY P t x ix H=none)(H2:AA):MY P t x ix H2=none:=by
 cases h2:MY P t x ix H2 with
 | none=>rfl
 | some tr=>obtain⟨t2,h3,_⟩:=Sk h2 H;rw[h]at h3;cases h3
theorem O7{H2:AA}(he:KC H H2){t:TypeId}{b j n:Nat}{ix v:Value}{H1:AA}(h:(GC P t b j n ix H).run=some (v,H1)):H1=H/\(GC P t b j n ix H2).run=some (v,H2):=by
 unfold GC at h ⊢;split at h
 .split at h
  .rename_i e k l ro hu hb;simp only[hu,he _ _ hb];split at h
   .rename_i sz hsz;try simp only[hsz]
    cases hk:Nat.beq sz k.length
    .simp only[hk,AAR]at h;cases h
    .simp only[hk,AAO]at h ⊢;obtain⟨h1,h2⟩:=A3 h;obtain⟨rfl,rfl⟩:=BC h2;simp only[h1,VT.run,AAO,ACF]
   .cases h
  .cases h
 .cases h
theorem RM{H2:AA}(he:KC H H2){t:TypeId}{b j:Nat}{ix v:Value}{H1:AA}(h:(Gi P t b j ix H).run=some (v,H1)):H1=H/\(Gi P t b j ix H2).run=some (v,H2):=by
 unfold Gi at h ⊢;split at h
 .split at h
  .rename_i n e k l ro hu hb;simp only[hu,he _ _ hb];split at h
   .rename_i sz hsz;try simp only[hsz]
    cases hk:Nat.beq sz k.length
    .simp only[hk,AAR]at h;cases h
    .simp only[hk,AAO]at h ⊢;obtain⟨h1,h2⟩:=A3 h;obtain⟨rfl,rfl⟩:=BC h2;simp only[h1,VT.run,AAO,ACF]
   .cases h
  .cases h
 .cases h
theorem OF{H2:AA}{s:TypeId}{b o i k:Nat}{v:Value}{H1:AA}(h:(Fa P s b o i k H).run=some (v,H1)):H1=H/\(Fa P s b o i k H2).run=some (v,H2):=by
 unfold Fa at h ⊢;split at h
 .split at h
  .split at h
   .rename_i n hn;cases hz:Nat.beq n 0
    .simp only[hz,AAR]at h ⊢;obtain⟨h1,h2⟩:=A3 h;obtain⟨rfl,rfl⟩:=BC h2;simp only[h1,VT.run,AAO,ACF]
    .simp only[hz,AAO]at h;cases h
   .cases h
  .cases h
 .cases h
theorem O1{H2:AA}{s:TypeId}{b o i k:Nat}{v:Value}{H1:AA}(h:(Ih P s b o i k H).run=some (v,H1)):H1=H/\(Ih P s b o i k H2).run=some (v,H2):=by
 obtain⟨h1,h2⟩:=A3 h;obtain⟨h3,h4⟩:=OF (H2:=H2) h2;exact⟨h3,by show(VT.test _ _ _).run=_;rw[h1];exact h4⟩
theorem Qv{t:TypeId}{cs:AL}{ix:Value}{T:VT}(h:Eo P t cs ix H=some T)(H2:AA):∃t2,Eo P t cs ix H2=some t2/\∀v H1,T.run=some (v,H1)->H1=H/\t2.run=some (v,H2):=by
 unfold Eo at h ⊢;split at h
 .split at h
  .rename_i sz hue hsz;cases hb:Nat.beq sz 1
   .simp only[hb,AAR]at h;cases h
   .simp only[hb,AAO,AAN]at h ⊢;subst h;refine⟨_,rfl,fun v H1 hr=>?_⟩;obtain⟨h1,hr⟩:=A3 hr;obtain⟨rfl,rfl⟩:=BC hr;refine⟨rfl,?_⟩;show(bif _ then _ else _)=_;rw[h1];rfl
  .cases h
 .cases h
theorem Oy{t:TypeId}{cs:AL}{ix:Value}(h:Eo P t cs ix H=none)(H2:AA):Eo P t cs ix H2=none:=by
 unfold Eo at h ⊢;split at h
 .split at h
  .rename_i sz hue hsz;cases hb:Nat.beq sz 1
   .simp only[AAR]
   .simp only[hb,AAO]at h;cases h
  .rfl
 .rfl
theorem Qk{H2:AA}{t:TypeId}{s:Ag}{ix v:Value}{H1:AA}(h:(Gg P t s ix H).run=some (v,H1)):H1=H/\(Gg P t s ix H2).run=some (v,H2):=by
 unfold Gg at h ⊢;split at h
 .obtain⟨h1,h2⟩:=A3 h;obtain⟨rfl,rfl⟩:=BC h2;simp only[h1,VT.run,AAO,ACF]
 .cases h
theorem RR{H2:AA}{t:TypeId}{s:Ag}{lo hi:DJ}{v:Value}{H1:AA}(h:(Gx P t s lo hi H).run=some (v,H1)):H1=H/\(Gx P t s lo hi H2).run=some (v,H2):=by
 unfold Gx at h ⊢;split at h
 .obtain⟨h1,h2⟩:=A3 h;obtain⟨rfl,rfl⟩:=BC h2;simp only[h1,VT.run,AAO,ACF]
 .cases h
theorem VA{H2:AA}(he:KC H H2){t:TypeId}{b j n c:Nat}{lo hi:DJ}{v:Value}{H1:AA}(h:(Kv P t b j n c lo hi H).run=some (v,H1)):H1=H/\(Kv P t b j n c lo hi H2).run=some (v,H2):=by
 unfold Kv at h ⊢;split at h
 .rename_i e k l0 ro l hh hu hb h1 h2;simp only[hu,he _ _ hb,h1,h2];split at h
  .rename_i sz hsz;try simp only[hsz]
   cases hk:(Nat.beq sz k.length&&Nat.beq c AT)
   .simp only[hk,AAR]at h;cases h
   .simp only[hk,AAO]at h ⊢;obtain⟨h1,h2⟩:=A3 h;obtain⟨rfl,rfl⟩:=BC h2;simp only[h1,VT.run,AAO,ACF]
  .cases h
 .cases h
theorem Un{H2:AA}(he:KC H H2){t:TypeId}{b j n c:Nat}{lo hi:DJ}{mx v:Value}{H1:AA}(h:(I6 P t b j n c lo hi mx H).run=some (v,H1)):H1=H/\(I6 P t b j n c lo hi mx H2).run=some (v,H2):=by
 unfold I6 at h ⊢;split at h
 .rename_i e k l0 ro l kh hh km m hu hb h1;simp only[hu,he _ _ hb,h1];split at h
  .rename_i sz hsz;try simp only[hsz]
   cases hk:(Nat.beq sz k.length&&Nat.beq c AT)
   .simp only[hk,AAR]at h;cases h
   .simp only[hk,AAO]at h ⊢;obtain⟨h1,h2⟩:=A3 h;obtain⟨rfl,rfl⟩:=BC h2;simp only[h1,VT.run,AAO,ACF]
  .cases h
 .cases h
theorem S7{op:BinOp}{x y:Value}{t:VT}(h:M3 op x y H=some t)(H2:AA):∃t2,M3 op x y H2=some t2/\∀v H1,t.run=some (v,H1)->H1=H/\t2.run=some (v,H2):=by
 unfold M3 at h ⊢;split at h
 .rename_i k a k' b;cases hk:decide (k=k')
  .simp only[hk,AAR]at h;cases h
  .simp only[hk,AAO,AAN]at h ⊢;subst h;refine⟨_,rfl,fun v H1 hr=>?_⟩;obtain⟨h1,h2⟩:=A3 hr;obtain⟨rfl,rfl⟩:=BC h2;simp only[h1,VT.run,AAO,ACF]
 .rename_i k a k' b;cases hk:decide (k=k')
  .simp only[hk,AAR]at h;cases h
  .simp only[hk,AAO,AAN]at h ⊢;subst h;refine⟨_,rfl,fun v H1 hr=>?_⟩;obtain⟨h1,h2⟩:=A3 hr;obtain⟨rfl,rfl⟩:=BC h2;simp only[h1,VT.run,AAO,ACF]
 all_goals first
  | (cases h;done)
  | (simp only[AAN]at h ⊢
     subst h;refine⟨_,rfl,fun v H1 hr=>?_⟩;obtain⟨h1,h2⟩:=A3 hr;obtain⟨rfl,rfl⟩:=BC h2;simp only[h1,VT.run,AAO,ACF])
theorem Xi{op:BinOp}{x y:Value}(h:M3 op x y H=none)(H2:AA):M3 op x y H2=none:=by
 cases h2:M3 op x y H2 with
 | none=>rfl
 | some t=>obtain⟨t2,h3,_⟩:=S7 h2 H;rw[h]at h3;cases h3
theorem Y3{op:BinOp}{ty:TypeId}{x y:Value}{t:VT}(h:Jp P op ty x y H=some t)(H2:AA):∃t2,Jp P op ty x y H2=some t2/\∀v H1,t.run=some (v,H1)->H1=H/\t2.run=some (v,H2):=by
 unfold Jp at h ⊢;split at h
 .cases h
  exact⟨_,rfl,fun v H1 hr=>by cases hr;exact⟨rfl,rfl⟩⟩
 .split at h
  .rename_i c r he;cases h
   refine⟨_,rfl,fun v H1 hr=>?_⟩;cases c
   .cases hr
   .cases hr;exact⟨rfl,rfl⟩
  .exact S7 h H2
theorem V8{op:BinOp}{ty:TypeId}{x y:Value}(h:Jp P op ty x y H=none)(H2:AA):Jp P op ty x y H2=none:=by
 unfold Jp at h ⊢;split at h
 .cases h
 .split at h
  .cases h
  .exact Xi h H2
theorem Rz{s d:TypeId}{x:Value}{t:VT}(hcls:∀e,P.underlying d≠some (.slice e))(h:FY P s d x H=some t){H2:AA}(he:KC H H2):∃t2,FY P s d x H2=some t2/\∀v H1,t.run=some (v,H1)->H1=H/\t2.run=some (v,H2):=by
 unfold FY at h ⊢;split at h
 .rename_i b j n c;simp only[AAN]at h ⊢;subst h;refine⟨_,rfl,fun v H1 hr=>?_⟩;split at hr
  .rename_i e l ro hu1 hu2 hb;split at hr
   .rename_i hue;simp only[hu1,hu2,he _ _ hb,hue];obtain⟨h1,h2⟩:=A3 hr;obtain⟨rfl,rfl⟩:=BC h2;simp only[h1,VT.run,AAO,ACF]
   .cases hr
  .cases hr
 .split at h
  .rename_i e hu1 hu2;exact absurd hu2 (hcls e)
  .cases h
 .cases h
theorem QP{s d:TypeId}{x:Value}(hcls:∀e,P.underlying d≠some (.slice e))(h:FY P s d x H=none)(H2:AA):FY P s d x H2=none:=by
 unfold FY at h ⊢;split at h
 .cases h
 .split
  .rename_i e hu1 hu2;exact absurd hu2 (hcls e)
  .rfl
 .rfl
theorem XE{ρ:Operand->Value}{o:Oper}{t:VT}(hcls:CI P o=0)(h:Us P ρ o H=some t){H2:AA}(he:KC H H2):∃t2,Us P ρ o H2=some t2/\∀v H1,t.run=some (v,H1)->H1=H/\t2.run=some (v,H2):=by
 unfold CI at hcls;unfold Us at h ⊢;cases hop:o.op<;>rw[hop]at hcls<;>simp only[hop]at h ⊢
 case makeSlice t0 _ _=>cases hb:FU P t0<;>simp[hb]at hcls
 case alloc t0=>cases hb:(Xw P t0).isSome<;>simp[hb]at hcls
 case load t a=>
  split at h
  .simp only[AAN]at h;subst h;exact⟨_,rfl,fun v H1 hr=>Yl he hr⟩
  .cases h
 case slice t x lo hi mx=>
  cases mx with
  | some m=>
   simp only at h ⊢;split at h
   .simp only[AAN]at h;subst h;exact⟨_,rfl,fun v H1 hr=>Un he hr⟩
   .cases h
  | none=>
   simp only at h ⊢;split at h
   .simp only[AAN]at h;subst h;exact⟨_,rfl,fun v H1 hr=>RR hr⟩
   .simp only[AAN]at h;subst h;exact⟨_,rfl,fun v H1 hr=>VA he hr⟩
   .cases h
 case fieldAddr=>
  split at h
  .simp only[AAN]at h;subst h;exact⟨_,rfl,fun v H1 hr=>O1 hr⟩
  .cases h
 case indexAddr=>
  split at h
  .simp only[AAN]at h;subst h;exact⟨_,rfl,fun v H1 hr=>O7 he hr⟩
  .simp only[AAN]at h;subst h;exact⟨_,rfl,fun v H1 hr=>RM he hr⟩
  .exact Sk h H2
 case index=>
  split at h
  .simp only[AAN]at h;subst h;exact⟨_,rfl,fun v H1 hr=>Qk hr⟩
  .exact Qv h H2
  .cases h
 case binOp op t x y yt=>exact Y3 h H2
 case convert s d x=>
  refine Rz (fun e hu=>?_) h he;simp only[hu]at hcls;cases hcls
 case call c=>
  split at h
  .rename_i hc;simp only[hc]at hcls;cases hcls
  .rename_i hc;simp only[hc]at hcls;cases hcls
  .cases h
 case store=>cases hcls
 case next=>cases hcls
 all_goals cases h
theorem jK{ρ:Operand->Value}{o:Oper}(hcls:CI P o=0)(h:Us P ρ o H=none)(H2:AA):Us P ρ o H2=none:=by
 unfold CI at hcls;unfold Us at h ⊢;cases hop:o.op<;>rw[hop]at hcls<;>simp only[hop]at h ⊢
 case makeSlice t0 _ _=>cases hb:FU P t0<;>simp[hb]at hcls
 case alloc t0=>cases hb:(Xw P t0).isSome<;>simp[hb]at hcls
 case load t a=>
  split at h
  .cases h
  .rfl
 case slice t x lo hi mx=>
  cases mx with
  | some m=>
   simp only at h ⊢;split at h
   .cases h
   .rfl
  | none=>
   simp only at h ⊢;split at h
   .cases h
   .cases h
   .rfl
 case fieldAddr=>
  split at h
  .cases h
  .rfl
 case indexAddr=>
  split at h
  .cases h
  .cases h
  .exact YN h H2
 case index=>
  split at h
  .cases h
  .exact Oy h H2
  .rfl
 case binOp op t x y yt=>exact V8 h H2
 case convert s d x=>
  refine QP (fun e hu=>?_) h H2;simp only[hu]at hcls;cases hcls
 case call c=>
  split at h
  .rename_i hc;simp only[hc]at hcls;cases hcls
  .rename_i hc;simp only[hc]at hcls;cases hcls
  .rfl
 case store=>cases hcls
 case next=>cases hcls
theorem Qd{ρ:Operand->Value}{o:Oper}{v:Value}{H1:AA}(hcls:CI P o=0)(h:L8 P ρ o H=some (v,H1)):H1=H/\∀H2,KC H H2->L8 P ρ o H2=some (v,H2):=by
 unfold L8 at h ⊢;split at h
 .rename_i t ht;obtain⟨_,_,h0⟩:=XE hcls ht (H2:=H) (fun _ _ h=>h);refine⟨(h0 _ _ h).1,fun H2 he=>?_⟩;obtain⟨t2,h1,h2⟩:=XE hcls ht he;simp only[h1];exact(h2 _ _ h).2
 .rename_i hn;obtain⟨h1,h2⟩:=cj hcls h;exact⟨h1,fun H2 he=>by simp only[jK hcls hn H2];exact h2 H2 he⟩
end
section
variable {P:Program}{base:Env}{W0:World}{Z:AW}{H:AA}{W:World}
inductive yA:(Nat->Value)->Prop where
 | ptr:yA fun b=> .pointer (some ⟨b,0,none⟩)
 | slice (l c:Nat) (h:c < AT):yA fun b=> .slice (some ⟨b,0,none⟩) l c
def gD(P:Program)(Z:AW)(W:World)(s:Sem Next)(obj:AJ)(mk:Nat->Value):Prop:=
 ∃o' T v',s.run P W= .ok (.value v') (W.alloc o')/\T.c=W.heap.size/\Cb Z T obj o'/\∀b,AF (Z.ext b T) (mk b) v'
theorem bL{ρ:Operand->Value}{o:Oper}(hcls:CI P o=1)(H:AA):Us P ρ o H=none:=by
 unfold CI at hcls;unfold Us;cases hop:o.op<;>rw[hop]at hcls
 case alloc t0=>
  simp only at hcls ⊢;unfold UA;cases hb:Xw P t0 with
  | none=>rfl
  | some e=>simp[hb]at hcls
 case makeSlice t0 l0 c0=>
  simp only at hcls ⊢;unfold UJ Qh;cases hb:FU P t0 with
  | false=>
   cases PZ l0 c0
   .rfl
   .rw[AAO];split<;>rfl
  | true=>simp[hb]at hcls
 all_goals first | rfl | (cases hcls;done) | (simp only at hcls;split at hcls<;>cases hcls)
theorem bC{ρ:Operand->Value}{o:Oper}{v:Value}{H1:AA}(hcls:CI P o=1)(h:L8 P ρ o H=some (v,H1)):
 ∃obj mk,v=mk H.next/\H1=H.alloc obj/\(∀H2,L8 P ρ o H2=some (mk H2.next,H2.alloc obj))/\(obj.ro=false/\obj.isAbs=false)/\
  ∀(Z:AW)(W:World)(ρ':Operand->Value),(∀x,AF Z (ρ x) (ρ' x))->gD P Z W (execOp ρ' o) obj mk:=by
 have hv1:=fun H=>bL (ρ:=ρ) hcls H
 unfold CI at hcls;unfold L8 at h ⊢;simp only[hv1]at h ⊢;unfold O2 at h ⊢;cases hop:o.op<;>rw[hop]at hcls<;>simp only[hop]at h ⊢
 case alloc t=>
  split at h
  .rename_i z hz;cases h
   refine⟨.cells z 0 false,fun b=> .pointer (some ⟨b,0,none⟩),rfl,rfl,fun _=>rfl,⟨rfl,rfl⟩,fun Z W ρ' _=>?_⟩;obtain⟨zz,r1,r2,r3⟩:=IF hz W;have hl:Af Z z zz.cells.toList:=by rw[<-r3];exact IP r2
   exact⟨_,_,.pointer (some ⟨W.heap.size,0,none⟩),by simp[execOp,hop,Instr.alloc,r1,newVar,newRow],rfl,Es W.heap.size 0 t hl,fun b=>Mn ⟨W.heap.size,0,zz.cells.size,0⟩ b rfl⟩
  .cases h
 case box t x=>
  cases hn:Ei (ρ x)
  .simp[hn]at h
  .simp only[hn,AAO,AAN,AAm]at h ⊢;obtain⟨rfl,rfl⟩:=h;refine⟨.cells (ρ x).cells.toList 0 false,fun b=> .pointer (some ⟨b,0,none⟩),rfl,rfl,fun _=>⟨rfl,rfl⟩,⟨rfl,rfl⟩,fun Z W ρ' hρ=>?_⟩;have hl:=JA (hρ x) (ME hn);exact⟨_,_,.pointer (some ⟨W.heap.size,0,none⟩),by simp[execOp,hop,Instr.box,newVar,newRow],rfl,Es W.heap.size 0 t hl,fun b=>Mn ⟨W.heap.size,0,(ρ' x).cells.size,0⟩ b rfl⟩
 case buildSlice t len parts=>
  cases hn:(Nat.blt len AT&&parts.toList.all (fun p=>Ei (ρ p.2)))
  .simp only[hn,AAR]at h;cases h
  .simp only[hn,AAO]at h ⊢;simp only[AAQ]at hn;have hcap:len < AT:=VC hn.1;unfold HG at h ⊢;split at h
   .rename_i e hu;split at h
    .rename_i n z hsz hz;obtain⟨ie,h5,rfl⟩:=NP hsz;obtain⟨i,zz,h1,h2,h3,h4⟩:=GU hz;rw[h5]at h1;cases h1
     cases hz0:Nat.beq (len * ie.size) 0
     case true=>
      simp only[hz0,AAO]at h ⊢;split at h
      .rename_i hpn;cases h
       refine⟨.cells [] ie.size false,fun b=> .slice (some ⟨b,0,none⟩) len len,rfl,rfl,fun _=>rfl,⟨rfl,rfl⟩,fun Z W ρ' hρ=>?_⟩;have hz0:=AAP hz0;have hpe:parts=#[]:=by
        have:parts.toList=[]:=by simpa using hpn
        rw[<-ABx,this]
       have hrun:(Instr.buildSlice t len (parts.map fun(i,x)=>(i,ρ' x))).run P W= .ok (.slice (some ⟨W.heap.size,0,none⟩) len len) (W.alloc (.cells #[] e)):=by
        have hr0:Array.range 0=#[]:=rfl;subst hpe;simp[Instr.buildSlice,run_underlying hu,sizeOf,typeInfo,h5,hz0,newRow,hr0,Instr.fill]
       exact⟨_,_,_,by simp only[execOp,hop,Sem.run_bind,hrun,Result.andThen_ok,Sem.run_pure],rfl,Es (l:=[]) (c:=#[]) W.heap.size ie.size e .nil,fun b=>E5 _ b rfl len len len (.inl ⟨hcap,rfl⟩)⟩
      .cases h
     simp only[hz0,AAR]at h ⊢;cases hcnd:(Nat.ble (len * ie.size) 16777216)
     .simp only[hcnd,AAR]at h;cases h
     .simp only[hcnd,AAO]at h ⊢;have c1:=VC hcnd;have c2:¬len * ie.size=0:=by intro e;rw[e]at hz0;exact absurd hz0 (by decide)
      cases hf:KE (fun i=>some (i * ie.size,ie.size)) (Ds z (len * ie.size)) (parts.toList.map fun p=>(p.1,ρ p.2))with
      | none=>simp[hf]at h
      | some r=>
       simp only[hf,AA8,AAN,AAm]at h ⊢;obtain⟨rfl,rfl⟩:=h;refine⟨.cells r ie.size false,fun b=> .slice (some ⟨b,0,none⟩) len len,rfl,rfl,fun _=>⟨rfl,rfl⟩,⟨rfl,rfl⟩,fun Z W ρ' hρ=>?_⟩;obtain⟨r',e1,e2⟩:=MR _ _ _ _ r (Kx hρ _ hn.2) (JK h3 h4 (len * ie.size)) hf;have hrun:(Instr.buildSlice t len (parts.map fun(i,x)=>(i,ρ' x))).run P W= .ok (.slice (some ⟨W.heap.size,0,none⟩) len len) (W.alloc (.cells r' e)):=by
        have hsmall:¬len * ie.size > 2 ^ 24:=by omega
        have e1':Instr.fill (fun i=>some (i * ie.size,ie.size)) ((Array.range (len * ie.size)).map (zz.cells[· % zz.cells.size]!)) (parts.map fun(i,x)=>(i,ρ' x)).toList=some r':=by
         rw[ABb];exact e1
        simp only[Instr.buildSlice,run_underlying hu,Sem.run_bind,Result.andThen_ok,BZ hsz,hsmall,ACv,Sem.run_pure,c2,zeroValue,typeInfo,run_program,h5,h2,e1',newRow,run_newObj,World.alloc_eq]
       exact⟨_,_,_,by simp only[execOp,hop,Sem.run_bind,hrun,Result.andThen_ok,Sem.run_pure],rfl,Es W.heap.size ie.size e e2,fun b=>E5 _ b rfl len len len (.inl ⟨hcap,rfl⟩)⟩
    .cases h
   .cases h
 case makeSlice t l c=>
  have h0:=h;unfold IC at h ⊢;split at h
  .rename_i e k1 l1 k2 c1 hu hl hc;split at h
   .rename_i i z hie hz;cases hcnd:(Nat.ble l1 c1&&Nat.ble (i.bytes * c1) 281474976710656&&Nat.blt c1 9223372036854775808)
    .simp only[hcnd,AAR]at h;cases h
    .simp only[hcnd,AAO,AAN,AAm]at h ⊢;obtain⟨rfl,rfl⟩:=h;refine⟨.cells (Ds z (c1 * i.size)) i.size false,fun b=> .slice (some ⟨b,0,none⟩) l1 c1,rfl,rfl,fun _=>⟨rfl,rfl⟩,⟨rfl,rfl⟩,fun Z W ρ' hρ=>?_⟩;have hl':ρ' l= .int k1 (Int.ofNat l1):=by
      have:=hρ l;rw[hl]at this
      generalize ρ' l=q at this ⊢;cases this;rfl
     have hc':ρ' c= .int k2 (Int.ofNat c1):=by
      have:=hρ c;rw[hc]at this
      generalize ρ' c=q at this ⊢;cases this;rfl
     obtain⟨o',T,hrun,hT,ho⟩:=Fy (P:=P) (Z:=Z) (W:=W) (k1:=k1) (k2:=k2) hu hie hz hcnd;refine⟨o',T,.slice (some ⟨W.heap.size,0,none⟩) l1 c1,by simp only[execOp,hop,hl',hc',Sem.run_bind,hrun,Result.andThen_ok,Sem.run_pure],hT.1,ho,fun b=>?_⟩;have:=VP;simp only[AAQ]at hcnd;have c3:c1 < 9223372036854775808:=VC hcnd.2;have hs:=E5 (Z:=Z) T b hT.2 l1 c1 c1 (.inl ⟨by omega,rfl⟩);rw[hT.1]at hs;exact hs
   .cases h
  .cases h
 case convert s d x=>
  simp only at hcls;split at hcls<;>cases hcls
 case call c=>
  simp only at hcls;split at hcls<;>cases hcls
 all_goals first | (cases h;done) | (simp at hcls;done)
theorem AH.ghost(h:AH base W0 Z H W)(o:AJ):AH base W0 Z (H.alloc o) W:=by
 have hn:=h.fresh H.next (AAT _);have key:∀b p T,(H.alloc o).get b=some p->Z b=some T->H.get b=some p:=by
  intro b p T hb hm;rw[AA.AN]at hb
  by_cases e:b=H.next
  .subst e;rw[hn.2]at hm;cases hm
  .rw[AAW e]at hb;exact hb
 refine⟨fun b p hb T hm=>h.obj b p (key b p T hb hm) T hm,fun b p hb hr T hm=>h.own b p (key b p T hb hm) hr T hm,fun b1 b2 o1 o2 h1 h2 T1 T2 m1 m2=>h.inj b1 b2 o1 o2 (key _ _ _ h1 m1) (key _ _ _ h2 m2) T1 T2 m1 m2,?_,h.bound,h.size,h.below,h.out,h.os,
  let ⟨φ,q⟩:=h.abs;⟨φ,fun b' a ro T' h1 h2=>q.rep b' a ro T' (key _ _ _ h1 h2) h2,fun b' a ro T' h1 h2 b2 o2 T2 h3 h4 h5=>q.C3 b' a ro T' (key _ _ _ h1 h2) h2 b2 o2 T2 (key _ _ _ h3 h4) h4 h5⟩,h.le,h.grow⟩
 intro b hb;have hb':H.next+1<=b:=hb;refine⟨?_,(h.fresh b (by omega)).2⟩;rw[AA.AN,AAW (by omega)];exact(h.fresh b (by omega)).1
theorem AH.settle(h:AH base W0 Z H W){b:Nat}{T:BQ}{obj:AJ}{o':Obj}(hb:H.get b=some obj)(hm:Z b=none)(hT:T.c=W.heap.size)(ho:Cb Z T obj o')(hna:obj.isAbs=false):AH base W0 (Z.ext b T) H (W.alloc o'):=by
 have hle:=AW.CV T hm;have hlt:=h.lt hb;have GM:∀i,i < W.heap.size->(W.alloc o').heap[i]? = W.heap[i]?:=by
  intro i hi;show(W.heap.push o')[i]? = W.heap[i]?;rw[ACU,AAW (by omega)]
 have key:∀i S,(Z.ext b T) i=some S->(i=b/\S=T)\/(i≠b/\Z i=some S):=by
  intro i S e
  by_cases hi:i=b
  .subst hi;rw[AW.AY]at e;cases e;exact .inl ⟨rfl,rfl⟩
  .rw[AW.BB _ _ hi]at e;exact .inr ⟨hi,e⟩
 refine⟨?_,?_,?_,?_,?_,?_,?_,h.out,h.os,?_,AW.le_trans h.le hle,by have:=h.grow;simp;omega⟩
 .intro i p hp S hS;rcases key i S hS with⟨rfl,rfl⟩ | ⟨hne,hS'⟩
  .rw[hb]at hp;cases hp
   refine⟨o',?_,ho.mono hle⟩;rw[hT];show(W.heap.push o')[W.heap.size]? = some o';simp
  .obtain⟨o2,h2,h3⟩:=h.obj i p hp S hS';exact⟨o2,by rw[GM _ (h.bound i S hS')];exact h2,h3.mono hle⟩
 .intro i p hp hr S hS;rcases key i S hS with⟨rfl,rfl⟩ | ⟨hne,hS'⟩
  .intro _ hk;have:=h.size _ hk;omega
  .exact h.own i p hp hr S hS'
 .intro b1 b2 o1 o2 h1 h2 T1 T2 m1 m2 v1 v2 hcc hrr;rcases key b1 T1 m1 with⟨e1,f1⟩ | ⟨n1,m1'⟩<;>rcases key b2 T2 m2 with⟨e2,f2⟩ | ⟨n2,m2'⟩
  .rw[e1,e2]
  .have:=h.bound b2 T2 m2';subst f1;omega
  .have:=h.bound b1 T1 m1';subst f2;omega
  .exact h.inj b1 b2 o1 o2 h1 h2 T1 T2 m1' m2' v1 v2 hcc hrr
 .intro i hi;refine⟨(h.fresh i hi).1,?_⟩;rw[AW.BB _ _ (by omega)];exact(h.fresh i hi).2
 .intro i S hS;rcases key i S hS with⟨rfl,rfl⟩ | ⟨hne,hS'⟩
  .simp;omega
  .have:=h.bound i S hS';simp;omega
 .intro i hi;have:=h.size i hi;simp;omega
 .intro i hi;rw[GM i (h.size i hi)];exact h.below i hi
 .obtain⟨φ,q⟩:=h.abs;refine⟨φ,?_,?_⟩
  .intro b' a ro T' hb' hm';rcases key b' T' hm' with⟨rfl,rfl⟩ | ⟨hne,hm2⟩
   .rw[hb]at hb';cases hb';cases hna
   .obtain⟨r1,r2⟩:=q.rep b' a ro T' hb' hm2;exact⟨(Ga.loc _ _ _ _ _ (by show W.heap.size<=(W.heap.push o').size;simp) r1 (fun i hi=>GM i ((Ga.JO _ _ _ _ r1).2 i hi))).mono hle,r2⟩
  .intro b' a ro T' hb' hm' b2 o2 T2 hb2 hm2 hne2;rcases key b' T' hm' with⟨rfl,rfl⟩ | ⟨hne,hm3⟩
   .rw[hb]at hb';cases hb';cases hna
   .rcases key b2 T2 hm2 with⟨rfl,rfl⟩ | ⟨hne3,hm4⟩
    .rw[hb]at hb2;cases hb2
     refine⟨fun _ hc=>?_,fun e=>by rw[hna]at e;cases e⟩;have:=(Ga.JO _ _ _ _ (q.rep b' a ro T' hb' hm3).1).2 _ hc;omega
    .exact q.C3 b' a ro T' hb' hm3 b2 o2 T2 hb2 hm4 hne2
end
section
variable {X:Ctx}{base:Env}{W0:World}{Z:AW}{H:AA}{W:World}
inductive Im(Z:AW):Cs->Item->Prop where
 | code (c:Code):Im Z (.code c) (.code c)
 | inBlock (id:Nat):Im Z (.inBlock id) (.inBlock id)
 | inLoop (c:Code):Im Z (.inLoop c) (.inLoop c)
 | inScope (c:Code):Im Z (.inScope c) (.inScope c)
 | Ks (ops:Array Oper) (l:List Oper) (idx:AP) (h:idx.map (ops[·]?)=l.map some):Im Z (.Ks ops l) (.inRegion ops idx)
 | inRangeFunc (l:Nat) (T:BQ) (h:Z l=some T):Im Z (.inRangeFunc l) (.inRangeFunc T.c)
 | endRangeFunc (l:Nat) (T:BQ) (h:Z l=some T):Im Z (.endRangeFunc l) (.endRangeFunc T.c)
 | beginRound:Im Z .beginRound .beginRound
inductive Et(Z:AW):List Cs->List Item->Prop where
 | nil:Et Z [] []
 | cons {x:Cs} {x':Item} {l:List Cs} {l':List Item} (h:Im Z x x') (t:Et Z l l'):Et Z (x::l) (x'::l')
inductive HZ(Z:AW):Option Nat->Option Nat->Prop where
 | none:HZ Z none none
 | some (l:Nat) (T:BQ) (h:Z l=some T):HZ Z (some l) (some T.c)
theorem Im.mono{Z ν:AW}(hl:Z.le ν){x:Cs}{x':Item}(h:Im Z x x'):Im ν x x':=by
 cases h with
 | code c=>exact .code c
 | inBlock id=>exact .inBlock id
 | inLoop c=>exact .inLoop c
 | inScope c=>exact .inScope c
 | Ks ops l idx h=>exact .Ks ops l idx h
 | inRangeFunc l T h=>exact .inRangeFunc l T (hl _ _ h)
 | endRangeFunc l T h=>exact .endRangeFunc l T (hl _ _ h)
 | beginRound=>exact .beginRound
theorem Et.mono{Z ν:AW}(hl:Z.le ν){x:List Cs}{x':List Item}(h:Et Z x x'):Et ν x x':=by
 induction h with
 | nil=>exact .nil
 | cons h _ ih=>exact .cons (h.mono hl) ih
theorem HZ.mono{Z ν:AW}(hl:Z.le ν){x x':Option Nat}(h:HZ Z x x'):HZ ν x x':=by
 cases h with
 | none=>exact .none
 | some l T h=>exact .some l T (hl _ _ h)
def Tx(r:Bool):FrameMode:=bif r then .returning else .run
def Iy(ops:Array Oper)(BP:List PE):Prop:=∀e∈BP,match e with | .op i o=>ops[i]? = some o | .R6 i o=>ops[i]? = some o
def Wq(ops:Array Oper):AP->Prop
 | []=>True
 | i::r=>(∃o,ops[i]? = some o/\∀d∈F7 o,d∉i::r)/\i∉r/\Wq ops r
def xw(X:Ctx)(Z:AW)(H:AA)(t:Tr Value)(o:Oper)(v:Value)(b:Nat):Prop:=
 ∃(obj:AJ) (mk:Nat->Value),v=mk b/\(∀H2,L8 X.P (Bs X t) o H2=some (mk H2.next,H2.alloc obj))/\b < H.next/\Z b=none/\H.get b=some obj
def Ms(X:Ctx)(Z:AW)(H:AA)(ops:Array Oper)(t:Tr Value)(G:List (Nat × Nat))(Fact:Nat->Oper->Nat->Prop)(i:Nat)(o:Oper):Prop:=
 ∃d,o.dst=some d/\CI X.P o≠2/\((DK ops o t=some false/\look t d=Go.undef)\/(DK ops o t=some true/\CI X.P o=0/\Fact i o d)\/
  (DK ops o t=some true/\CI X.P o=1/\∃b,(i,b)∈G/\xw X Z H t o (look t d) b))
structure FW(X:Ctx)(Z:AW)(H:AA)(ops:Array Oper)(t:Tr Value)(n:Nat)(tm:BE)(D:AP)(BP:List PE)(idx:AP)(G:List (Nat × Nat))(Fact:Nat->Oper->Nat->Prop):Prop where
 stat:MI X.P ops=true
 wf:Iy ops BP
 Uu:Ev X.P ops D BP=true
 J7:Wq ops idx
 Wv:∀i o,ops[i]? = some o->i∉idx->i∈D/\∀d∈F7 o,d∉idx
 ev:∀i o,ops[i]? = some o->i∈D->∀d∈F7 o,d∈D
 sz:tm.size=n
 tmp:∀u,(∀i o,ops[i]? = some o->i∈D->i∈idx->o.dst≠some u)->AF Z (look t u) (tm.getD u Go.undef)
 mB:∀i o,ops[i]? = some o->i∈D->i∈idx->Ms X Z H ops t G Fact i o
 ep:∀i o d,ops[i]? = some o->i∈D->o.dst=some d->d < n
 gO:(G.map Prod.snd).Nodup
 eY:∀b∈G.map Prod.snd,b < H.next
def FB(X:Ctx)(H:AA)(t:Tr Value)(BP:List PE)(i:Nat)(o:Oper)(d:Nat):Prop:=i∈lead BP\/∃H1,L8 X.P (Bs X t) o H=some (look t d,H1)
def QV(rest:List PE)(i:Nat)(_:Oper)(_:Nat):Prop:=i∈lead rest
inductive Hi(X:Ctx)(Z:AW)(H:AA):AP->Ae->Frame->Prop where
 | plain (fn:FuncId) (t:Tr Value) (n:Nat) (tm:BE) (todo:List Cs) (todo':List Item) (ds ds':List Deferred) (r:Bool) (kd:CallKind) (rd rd':Option Nat)
  (ht:Gt Z t n tm) (hi:Et Z todo todo') (hd:Ch Z ds ds') (hr:HZ Z rd rd'):
  Hi X Z H [] ⟨fn,t,n,todo,ds,r,kd,rd⟩ ⟨fn,tm,todo',ds',Tx r,kd,rd'⟩
 | Ka (fn:FuncId) (t:Tr Value) (n:Nat) (tm:BE) (ops:Array Oper) (x:Nat) (o:Oper) (rest:List PE) (idx D:AP) (G:List (Nat × Nat)) (k:List Cs) (k':List Item) (ds ds':List Deferred) (kd:CallKind) (rd rd':Option Nat)
  (ho:ops[x]? = some o) (hD:FW X Z H ops t n tm D (.op x o::rest) (x::idx) G (QV rest)) (hk:Et Z k k') (hd:Ch Z ds ds') (hr:HZ Z rd rd'):
  Hi X Z H (G.map Prod.snd) ⟨fn,t,n,.E0 ops (.op x o::rest)::k,ds,false,kd,rd⟩ ⟨fn,tm,.inRegion ops (x::idx)::k',ds',.run,kd,rd'⟩
inductive Ni(X:Ctx)(Z:AW)(H:AA):AP->Ae->Frame->Prop where
 | plain (fn:FuncId) (t:Tr Value) (n:Nat) (tm:BE) (todo:List Cs) (todo':List Item) (ds ds':List Deferred) (r:Bool) (kd:CallKind) (rd rd':Option Nat)
  (ht:Gt Z t n tm) (hi:Et Z todo todo') (hd:Ch Z ds ds') (hr:HZ Z rd rd'):
  Ni X Z H [] ⟨fn,t,n,todo,ds,r,kd,rd⟩ ⟨fn,tm,todo',ds',Tx r,kd,rd'⟩
 | drawn (fn:FuncId) (t:Tr Value) (n:Nat) (tm:BE) (ops:Array Oper) (BP:List PE) (idx D:AP) (G:List (Nat × Nat)) (k:List Cs) (k':List Item) (ds ds':List Deferred) (kd:CallKind) (rd rd':Option Nat)
  (hD:FW X Z H ops t n tm D BP idx G (FB X H t BP)) (hk:Et Z k k') (hd:Ch Z ds ds') (hr:HZ Z rd rd'):
  Ni X Z H (G.map Prod.snd) ⟨fn,t,n,.E0 ops BP::k,ds,false,kd,rd⟩ ⟨fn,tm,.inRegion ops idx::k',ds',.run,kd,rd'⟩
inductive EJ(X:Ctx)(Z:AW)(H:AA):AP->List Ae->List Frame->Prop where
 | nil:EJ X Z H [] [] []
 | cons {g gs:AP} {f:Ae} {f':Frame} {l:List Ae} {l':List Frame} (h:Hi X Z H g f f') (t:EJ X Z H gs l l'):EJ X Z H (g++gs) (f::l) (f'::l')
structure Fq(gs:AP)(Z:AW)(H:AA)(μ':AW)(H':AA):Prop where
 le:Z.le μ'
 next:H.next<=H'.next
 ghost:∀b∈gs,b < H.next->Z b=none->μ' b=none/\H'.get b=H.get b
theorem Ah.keeps{μ':AW}{H':AA}(h:Ah Z H μ' H')(gs:AP):Fq gs Z H μ' H':=⟨h.le,h.next,fun b _=>h.ghost b⟩
theorem Fq.sub{gs gs':AP}{μ':AW}{H':AA}(h:Fq gs Z H μ' H')(hs:∀b∈gs',b∈gs):Fq gs' Z H μ' H':=⟨h.le,h.next,fun b hb=>h.ghost b (hs b hb)⟩
theorem Fq.refl(gs:AP)(Z:AW)(H:AA):Fq gs Z H Z H:=⟨AW.le_refl _,AAT _,fun _ _ _ h=>⟨h,rfl⟩⟩
theorem Fq.trans{gs:AP}{μ1 μ2:AW}{H1 H2:AA}(h:Fq gs Z H μ1 H1)(h':Fq gs μ1 H1 μ2 H2):Fq gs Z H μ2 H2:=
 ⟨AW.le_trans h.le h'.le,ABs h.next h'.next,fun b hb hlt hm=>
  have h1:=h.ghost b hb hlt hm;have h2:=h'.ghost b hb (ABR hlt h.next) h1.1
  ⟨h2.1,h2.2.trans h1.2⟩⟩
theorem Ms.mono{μ':AW}{H':AA}{ops:Array Oper}{t:Tr Value}{G:List (Nat × Nat)}{Fact:Nat->Oper->Nat->Prop}{i:Nat}{o:Oper}(hk:Fq (G.map Prod.snd) Z H μ' H')(h:Ms X Z H ops t G Fact i o):Ms X μ' H' ops t G Fact i o:=by
 obtain⟨d,hd,hc2,h⟩:=h;refine⟨d,hd,hc2,?_⟩;rcases h with h | h | ⟨h1,h2,b,hb,obj,mk,e1,e2,e3,e4,e5⟩
 .exact .inl h
 .exact .inr (.inl h)
 .have hg:=hk.ghost b (List.mem_map.2 ⟨_,hb,rfl⟩) e3 e4;exact .inr (.inr ⟨h1,h2,b,hb,obj,mk,e1,e2,ABR e3 hk.next,hg.1,by rw[hg.2];exact e5⟩)
theorem FW.mono{μ':AW}{H':AA}{ops:Array Oper}{t:Tr Value}{n:Nat}{tm:BE}{D:AP}{BP:List PE}{idx:AP}{G:List (Nat × Nat)}{Fact:Nat->Oper->Nat->Prop}(hk:Fq (G.map Prod.snd) Z H μ' H')(h:FW X Z H ops t n tm D BP idx G Fact):FW X μ' H' ops t n tm D BP idx G Fact:=
 ⟨h.stat,h.wf,h.Uu,h.J7,h.Wv,h.ev,h.sz,fun u hu=>(h.tmp u hu).mono hk.le,fun i o ho h1 h2=>(h.mB i o ho h1 h2).mono hk,h.ep,h.gO,fun b hb=>ABR (h.eY b hb) hk.next⟩
theorem Hi.mono{g:AP}{μ':AW}{H':AA}(hk:Fq g Z H μ' H'){f:Ae}{f':Frame}(h:Hi X Z H g f f'):Hi X μ' H' g f f':=by
 cases h with
 | plain fn t n tm todo todo' ds ds' r kd rd rd' ht hi hd hr=>exact .plain fn t n tm todo todo' ds ds' r kd rd rd' (ht.mono hk.le) (hi.mono hk.le) (hd.mono hk.le) (hr.mono hk.le)
 | Ka fn t n tm ops x o rest idx D G k k' ds ds' kd rd rd' ho hD hkk hd hr=>exact .Ka fn t n tm ops x o rest idx D G k k' ds ds' kd rd rd' ho (hD.mono hk) (hkk.mono hk.le) (hd.mono hk.le) (hr.mono hk.le)
theorem EJ.mono{g:AP}{μ':AW}{H':AA}{f:List Ae}{f':List Frame}(h:EJ X Z H g f f')(hk:Fq g Z H μ' H'):EJ X μ' H' g f f':=by
 induction h with
 | nil=>exact .nil
 | cons h _ ih=>exact .cons (h.mono (hk.sub fun b hb=>by simp[hb])) (ih (hk.sub fun b hb=>by simp[hb]))
theorem Hi.lt{g:AP}{f:Ae}{f':Frame}(h:Hi X Z H g f f'):∀b∈g,b < H.next:=by
 cases h with
 | plain=>intro b hb;simp at hb
 | Ka fn t n tm ops x o rest idx D G k k' ds ds' kd rd rd' ho hD hkk hd hr=>exact hD.eY
theorem EJ.lt{g:AP}{f:List Ae}{f':List Frame}(h:EJ X Z H g f f'):∀b∈g,b < H.next:=by
 induction h with
 | nil=>intro b hb;simp at hb
 | cons h _ ih=>
  intro b hb;rcases List.mem_append.1 hb with hb | hb
  .exact h.lt b hb
  .exact ih b hb
def BX(X:Ctx)(Z:AW):Prop:=∀g,X.laid.any (fun p=>Nat.beq g p.1)=true->∃T,Z g=some T/\T.c=g/\T.d=0/\T.e=0/\∀cs,(g,cs)∈X.laid->T.r=cs.length
theorem BX.mono{μ':AW}(hl:Z.le μ')(h:BX X Z):BX X μ':=fun g hg=>let ⟨T,h1,h2⟩:=h g hg;⟨T,hl _ _ h1,h2⟩
structure JD(X:Ctx)(base:Env)(W0:World)(Z:AW)(c:BU)(fr:Frame)(cs:List Frame)(W:World):Prop where
 heap:AH base W0 Z c.H W
 laid:BX X Z
 YC:∃g gs,Ni X Z c.H g c.fr fr/\EJ X Z c.H gs c.cs cs/\(g++gs).Nodup
def DW(X:Ctx)(base:Env)(W0:World)(cs0:List Frame)(c':BU)(m:Machine):Prop:=
 ∃μ' fr cs W,Steps X.P m (lone fr (cs++cs0) W)/\JD X base W0 μ' c' fr cs W
theorem Nt(hl:BX X Z){t:Tr Value}{fr:Frame}(x:Operand)(ht:∀u,x= .tmp u->AF Z (look t u) (fr.tmps.getD u Go.undef)):AF Z (Bs X t x) (fr.eval x):=by
 cases x with
 | tmp i=>exact ht i rfl
 | const v=>
  simp only[Bs,Frame.eval];cases hf:flat v
  .exact .Bo v
  .exact D4 hf
 | global g=>
  simp only[Bs,Frame.eval];cases hg:X.laid.any (fun p=>Nat.beq g p.1)
  .exact .Bo _
  .obtain⟨T,h1,h2,h3,_⟩:=hl g hg;have:=AF.ptr (Z:=Z) g 0 T h1;rw[h2,h3]at this;exact this
 | func f=>exact AF.Cd.2 ⟨_,_,_,rfl,.func f,.nil,.nil⟩
theorem NA(hl:BX X Z){t:Tr Value}{n:Nat}{fr:Frame}(ht:Gt Z t n fr.tmps)(x:Operand):AF Z (Bs X t x) (fr.eval x):=Nt hl x fun u _=>ht.2 u
theorem KL{ops:Array Oper}{o:Oper}{t:Tr Value}{tm:BE}(ht:∀j w d,o.guard=some (j,w)->HJ ops j=some d->AF Z (look t d) (tm.getD d Go.undef)){b:Bool}(h:DK ops o t=some b):Region.wanted o (yielded ops tm)=b:=by
 unfold DK at h;unfold Region.wanted;cases hg:o.guard with
 | none=>simp[hg]at h;simp[<-h]
 | some jw=>
  obtain⟨j,want⟩:=jw;simp only[hg]at h ⊢;have ht':=fun d hd=>ht j want d hg hd
  unfold HJ at h ht';rw[AAx]at h ht';unfold yielded;cases hj:ops[j]? with
  | none=>simp[hj]at h;simp[<-h]
  | some oj=>
   simp only[hj]at h ht';cases hd:oj.dst with
   | none=>simp[hd]at h;simp[hd,<-h]
   | some d=>
    simp only[hd]at h ht';have hr:=ht' d rfl;simp only[AAv,hd];split at h
    .rename_i x hx;rw[hx]at hr;have hc:tm[d]? = some (.bool x):=by
      rw[AAs]at hr;cases hq:tm[d]? with
      | none=>rw[hq]at hr;simp only[Option.getD_none]at hr;cases hr
      | some q=>rw[hq]at hr;simp only[ABZ]at hr;cases hr;rfl
     simp only[hc];cases h
     cases want<;>cases x<;>rfl
    .rename_i xs hx;rw[hx]at hr;cases h
     rw[AAs]at hr;cases hq:tm[d]? with
     | none=>rfl
     | some q=>
      rw[hq]at hr;simp only[ABZ]at hr
      cases hr;rfl
    .cases h
theorem L7{ops:Array Oper}{o:Oper}{t:Tr Value}{n:Nat}{tm:BE}(ht:Gt Z t n tm){b:Bool}(h:DK ops o t=some b):Region.wanted o (yielded ops tm)=b:=KL (fun _ _ d _ _=>ht.2 d) h
end
section
variable {X:Ctx}{base:Env}{W0:World}{Z:AW}{H:AA}{W:World}
theorem Ey{l:AP}{i:Nat}:NU l i=true <-> i∈l:=by
 unfold NU;rw[ACs];constructor
 .rintro⟨x,hx,h⟩;rw[AAP h];exact hx
 .intro h;exact⟨i,h,AAu _⟩
theorem Kw{ops:Array Oper}{i:Nat}{o:Oper}(h:ops[i]? = some o):(o,i)∈ops.toList.zipIdx:=by
 rw[List.mk_mem_zipIdx_iff_getElem?,AAx];exact h
theorem Ui{a:Option Tmp}{u:Tmp}(h:a=some u):Ph a (some u)=true:=by subst h;exact AAu _
theorem L4{P:Program}{ops:Array Oper}(h:MI P ops=true){i j:Nat}{o oj:Oper}{u:Tmp}(hi:ops[i]? = some o)(hj:ops[j]? = some oj)(hu:u∈FA ops o)(hd:oj.dst=some u):j∈F7 o\/(CI P oj=2/\i∈Jy ops.toList oj):=by
 have h1:=List.all_eq_true.1 h _ (Kw hi);simp only[AAQ]at h1;have h2:=List.all_eq_true.1 (List.all_eq_true.1 h1.1.1 u hu) _ (Kw hj);simp only[Ui hd,ACt,ABw,ABa,AAQ]at h2;rcases h2 with h2 | ⟨h2,h3⟩
 .exact .inl (Ey.1 h2)
 .exact .inr ⟨AAP h2,Ey.1 h3⟩
theorem iK{P:Program}{ops:Array Oper}(h:MI P ops=true){i:Nat}{o:Oper}(hi:ops[i]? = some o)(hc:CI P o≠2):∃d,o.dst=some d:=by
 have h1:=List.all_eq_true.1 h _ (Kw hi);simp only[AAQ]at h1;have h2:=h1.1.2;rw[ABa]at h2;rcases h2 with h2 | h2
 .exact absurd (AAP h2) hc
 .exact Option.isSome_iff_exists.1 h2
theorem R9{P:Program}{ops:Array Oper}(h:MI P ops=true){i j:Nat}{o oj:Oper}{u:Tmp}(hi:ops[i]? = some o)(hj:ops[j]? = some oj)(hne:i≠j)(h1:o.dst=some u)(h2:oj.dst=some u):False:=by
 have h3:=List.all_eq_true.1 h _ (Kw hi);simp only[AAQ]at h3;have h4:=List.all_eq_true.1 h3.2 _ (Kw hj);simp only[h1,h2,Ph,AAu,ACt,ACg]at h4;exact hne (AAP h4)
theorem O9{ops:List Oper}(S:Nat->Prop)(hS:∀i o,ops[i]? = some o->S i->∀d∈F7 o,S d):∀(f:Nat)(todo seen:AP),(∀i∈todo,S i)->(∀i∈seen,S i)->∀i∈Sw ops f todo seen,S i:=by
 intro f;induction f with
 | zero=>intro todo seen _ h2 i hi;exact h2 i hi
 | succ f ih=>
  intro todo seen h1 h2 i hi;unfold Sw at hi;split at hi
  .exact h2 i hi
  .rename_i j r;cases hs:seen.any (Nat.beq j)
   .simp only[hs,AAR]at hi;split at hi
    .rename_i o ho;have hj:=h1 j (by simp);refine ih _ _ ?_ ?_ i hi
     .intro d hd;rcases List.mem_append.1 hd with hd | hd
      .exact hS j o ho hj d hd
      .exact h1 d (by simp[hd])
     .intro d hd;rcases List.mem_cons.1 hd with rfl | hd
      .exact hj
      .exact h2 d hd
    .exact ih _ _ (fun d hd=>h1 d (by simp[hd])) h2 i hi
   .simp only[hs,AAO]at hi;exact ih _ _ (fun d hd=>h1 d (by simp[hd])) h2 i hi
theorem E7(t:Tr Value)(d:Nat)(v:Value):look (t.put d (some v)) d=v:=by unfold look;rw[Tr.Tq];rfl
theorem FM(t:Tr Value){d u:Nat}(v:Value)(h:u≠d):look (t.put d (some v)) u=look t u:=by unfold look;rw[Tr.Yv _ _ h]
theorem Lp(tm:BE){d:Nat}(v:Value)(h:d < tm.size):(tm.setIfInBounds d v).getD d Go.undef=v:=by
 rw[AAs,ABM];simp[h]
theorem Md(tm:BE){d u:Nat}(v:Value)(h:u≠d):(tm.setIfInBounds d v).getD u Go.undef=tm.getD u Go.undef:=by
 rw[AAs,ABM];simp[Ne.symm h,Array.getD_eq_getD_getElem?]
theorem WY{t t':Tr Value}{x:Operand}(h:∀u,x= .tmp u->look t' u=look t u):Bs X t' x=Bs X t x:=by
 cases x with
 | tmp u=>exact h u rfl
 | _=>rfl
theorem NZ{ops:Array Oper}{o:Oper}{u:Tmp}(h:Operand.tmp u∈o.op.operands):u∈FA ops o:=by
 unfold FA;refine List.mem_append_left _ (List.mem_filterMap.2 ⟨.tmp u,by simpa using h,rfl⟩)
theorem Kn{ops:Array Oper}{o:Oper}{j:Nat}{w:Bool}{d:Tmp}(h:o.guard=some (j,w))(hd:HJ ops j=some d):d∈FA ops o:=by
 unfold FA;refine List.mem_append_right _ ?_;simp only[h,hd];simp
theorem G5{ops:Array Oper}{o:Oper}{t t':Tr Value}(h:∀u∈FA ops o,look t' u=look t u):DK ops o t'=DK ops o t:=by
 unfold DK;cases hg:o.guard with
 | none=>rfl
 | some jw=>
  obtain⟨j,w⟩:=jw;simp only;cases hd:HJ ops j with
  | none=>rfl
  | some d=>
   simp only;rw[h d (Kn hg hd)]
theorem Mv{ops:Array Oper}{o:Oper}{t t':Tr Value}(h:∀u∈FA ops o,look t' u=look t u)(H:AA):L8 X.P (Bs X t') o H=L8 X.P (Bs X t) o H:=
 JC o fun x hx=>WY fun u hu=>h u (NZ (by rw[<-hu];exact hx))
theorem Ms.congr{ops:Array Oper}{t t':Tr Value}{G:List (Nat × Nat)}{Fact Fact':Nat->Oper->Nat->Prop}{i:Nat}{o:Oper}(hr:∀u∈FA ops o,look t' u=look t u)(hd:∀d,o.dst=some d->look t' d=look t d)(hf:∀d,o.dst=some d->DK ops o t=some true->CI X.P o=0->Fact i o d->Fact' i o d)(h:Ms X Z H ops t G Fact i o):Ms X Z H ops t' G Fact' i o:=by
 obtain⟨d,h1,h0,h2⟩:=h;refine⟨d,h1,h0,?_⟩;rw[G5 hr,hd d h1];rcases h2 with h2 | ⟨a,b,c⟩ | ⟨a,b,q,hq,obj,mk,e1,e2,e3⟩
 .exact .inl h2
 .exact .inr (.inl ⟨a,b,hf d h1 a b c⟩)
 .exact .inr (.inr ⟨a,b,q,hq,obj,mk,e1,fun H2=>by rw[Mv hr];exact e2 H2,e3⟩)
theorem Hy{P:Program}{ops:Array Oper}{D:AP}{i:Nat}{o:Oper}{rest:List PE}(h:Ev P ops D (.op i o::rest)=true):i∉D/\(∀d∈F7 o,d∈D)/\Ev P ops (i::D) rest=true/\
 (CI P o=2->(∀j oj,ops[j]? = some oj->j∈D\/j=i\/i∈Jy ops.toList oj)/\∀j oj,j∈D->ops[j]? = some oj->CI P oj=0->j∈Jy ops.toList o\/j∈lead rest):=by
 unfold Ev at h;simp only[AAQ,ABd]at h;obtain⟨⟨⟨h1,h2⟩,h3⟩,h4⟩:=h;refine⟨(fun hm=>by rw[Ey.2 hm]at h1;cases h1),fun d hd=>Ey.1 (List.all_eq_true.1 h2 d hd),h4,fun hc=>?_⟩;rw[hc]at h3;simp only[AAu,AAO,AAQ]at h3;refine⟨fun j oj hj=>?_,fun j oj hj hoj hc0=>?_⟩
 .have:=List.all_eq_true.1 h3.1 _ (Kw hj);simp only[ABa]at this;rcases this with(h5 | h5) | h5
  .exact .inl (Ey.1 h5)
  .exact .inr (.inl (AAP h5))
  .exact .inr (.inr (Ey.1 h5))
 .have:=List.all_eq_true.1 h3.2 j hj;rw[AAx,hoj]at this;simp only[hc0,AAu,ACt,ABw,ABa]at this;exact this.imp Ey.1 Ey.1
theorem FW.apart{ops:Array Oper}{t:Tr Value}{n:Nat}{tm:BE}{D:AP}{BP:List PE}{idx:AP}{G:List (Nat × Nat)}{Fact:Nat->Oper->Nat->Prop}(h:FW X Z H ops t n tm D BP idx G Fact){x j:Nat}{o oj:Oper}{d:Tmp}(hx:ops[x]? = some o)(hxD:x∉D)(hd:o.dst=some d)(hj:ops[j]? = some oj)(hjD:j∈D)(hdis:CI X.P o=2->j∉Jy ops.toList o):d∉FA ops oj/\oj.dst≠some d:=by
 refine⟨fun hr=>(L4 h.stat hj hx hr hd).elim (fun q=>hxD (h.ev j oj hj hjD x q)) fun q=>hdis q.1 q.2,fun e=>?_⟩;exact R9 h.stat hx hj (by rintro rfl;exact hxD hjD) hd e
theorem FW.advance{ops:Array Oper}{t t':Tr Value}{n x:Nat}{tm tm':BE}{D:AP}{rest:List PE}{idx:AP}{G:List (Nat × Nat)}{o:Oper}{v v':Value}(ho:ops[x]? = some o)(h:FW X Z H ops t n tm D (.op x o::rest) (x::idx) G (QV rest))(hv:AF Z v v')(hs:(∃d,o.dst=some d/\d < n/\t'=t.put d (some v)/\tm'=tm.setIfInBounds d v')\/(o.dst=none/\t'=t/\tm'=tm)):FW X Z H ops t' n tm' (x::D) rest idx G (FB X H t' rest):=by
 obtain⟨hxD,hdeps,hok,hcls⟩:=Hy h.Uu;obtain⟨⟨o2,ho2,hdx⟩,hxi,htopo⟩:=h.J7;rw[ho]at ho2;cases ho2
 have hlook:∀u,o.dst≠some u->look t' u=look t u:=by
  intro u hu;rcases hs with⟨d,hd,_,rfl,_⟩ | ⟨_,rfl,_⟩
  .exact FM t v (by rintro rfl;exact hu hd)
  .rfl
 refine⟨h.stat,fun e he=>h.wf e (by simp[he]),hok,htopo,?_,?_,?_,?_,?_,?_,h.gO,h.eY⟩
 .intro i oi hi hni
  by_cases e:i=x
  .subst e;rw[ho]at hi;cases hi
   exact⟨by simp,fun d hd hm=>hdx d hd (by simp[hm])⟩
  .obtain⟨h1,h2⟩:=h.Wv i oi hi (by simp[e,hni]);exact⟨by simp[h1],fun d hd hm=>h2 d hd (by simp[hm])⟩
 .intro i oi hi hiD d hd;rcases List.mem_cons.1 hiD with rfl | hiD
  .rw[ho]at hi;cases hi;simp[hdeps d hd]
  .simp[h.ev i oi hi hiD d hd]
 .rcases hs with⟨d,_,_,_,rfl⟩ | ⟨_,_,rfl⟩
  .simp[h.sz]
  .exact h.sz
 .intro u hu;have hold:(∀i oi,ops[i]? = some oi->i∈D->i∈x::idx->oi.dst≠some u):=by
   intro i oi hi hiD him;rcases List.mem_cons.1 him with rfl | him
   .exact absurd hiD hxD
   .exact hu i oi hi (by simp[hiD]) him
  have hu0:=h.tmp u hold;rcases hs with⟨d,hd,hdn,rfl,rfl⟩ | ⟨_,rfl,rfl⟩
  .by_cases e:u=d
   .subst e;rw[E7,Lp _ _ (by rw[h.sz];exact hdn)];exact hv
   .rw[FM _ _ e,Md _ _ e];exact hu0
  .exact hu0
 .intro i oi hi hiD him;have hix:i≠x:=by rintro rfl;exact hxi him
  have hiD':i∈D:=by
   rcases List.mem_cons.1 hiD with e | e
   .exact absurd e hix
   .exact e
  have hp:=h.mB i oi hi hiD' (by simp[him]);have hdis:CI X.P o=2->i∉Jy ops.toList o:=fun _ ha=>by
   refine O9 (ops:=ops.toList) (fun q=>q∉x::idx) (fun q oq hq hnq=>?_) _ _ _ (fun q hq=>hdx q hq) (fun q hq=>by cases hq) i ha (by simp[him]);rw[AAx]at hq;exact(h.Wv q oq hq hnq).2
  refine hp.congr (fun u hu=>hlook u fun e=>(h.apart ho hxD e hi hiD' hdis).1 hu) (fun d hd=>hlook d fun e=>(h.apart ho hxD e hi hiD' hdis).2 hd) fun d _ _ _ hf=> .inl hf
 .intro i oi d hi hiD hd;rcases List.mem_cons.1 hiD with rfl | hiD
  .rw[ho]at hi;cases hi
   rcases hs with⟨d2,hd2,hlt,_,_⟩ | ⟨hn,_,_⟩
   .rw[hd2]at hd;cases hd;exact hlt
   .rw[hn]at hd;cases hd
  .exact h.ep i oi d hi hiD hd
theorem EE{g:AP}{f:Ae}{f':Frame}{f1:Ae}{v v':Value}(hf:Hi X Z H g f f')(hv:AF Z v v')(h:CL f v=some f1):Ni X Z H g f1 (f'.finish v'):=by
 cases hf with
 | plain fn t n tm todo todo' ds ds' r kd rd rd' ht hi hd hr=>
  unfold CL at h;rw[LG]at h;simp only at h;split at h
  .rename_i ops o rest k;cases hi with
   | cons h1 h2=>
    cases h1 with
    | Ks _ _ idx hidx=>
     cases idx with
     | nil=>simp at hidx
     | cons i idx=>
      simp only[AAn,AAd]at hidx;split at h
      .rename_i d hdst;cases hlt:Nat.blt d n
       .simp[hlt]at h
       .simp only[hlt,AAO,AAN]at h;subst h;simp only[Frame.finish,hidx.1,AAv,hdst];exact .plain fn _ n _ _ _ ds ds' r kd rd rd' (ht.put (VC hlt) hv) (.cons (.Ks ops rest idx hidx.2) h2) hd hr
      .rename_i hdst;cases h
       simp only[Frame.finish,hidx.1,AAv,hdst];exact .plain fn _ n _ _ _ ds ds' r kd rd rd' ht (.cons (.Ks ops rest idx hidx.2) h2) hd hr
  .rename_i ops i o rest k;cases hi with
   | cons h1 h2=>cases h1
  .rename_i l k;cases h
   cases hi with
   | cons h1 h2=>
    cases h1 with
    | inRangeFunc _ T hT=>exact .plain fn _ n _ _ _ ds ds' r kd rd rd' ht (.cons (.endRangeFunc l T hT) h2) hd hr
  .rename_i k;cases h
   cases hi with
   | cons h1 h2=>
    cases h1
    exact .plain fn _ n _ _ _ ds ds' r kd rd rd' ht h2 hd hr
  .cases h
 | Ka fn t n tm ops x o rest idx D G k k' ds ds' kd rd rd' ho hD hk hd hr=>
  unfold CL at h;rw[LG]at h;simp only at h;split at h
  .rename_i d hdst;cases hlt:Nat.blt d n
   .simp[hlt]at h
   .simp only[hlt,AAO,AAN]at h;subst h;simp only[Frame.finish,ho,AAv,hdst];exact .drawn fn _ n _ ops rest idx (x::D) G k k' ds ds' kd rd rd' (hD.advance ho hv (.inl ⟨d,hdst,VC hlt,rfl,rfl⟩)) hk hd hr
  .rename_i hdst;cases h
   simp only[Frame.finish,ho,AAv,hdst];exact .drawn fn _ n _ ops rest idx (x::D) G k k' ds ds' kd rd rd' (hD.advance ho hv (.inr ⟨hdst,rfl,rfl⟩)) hk hd hr
end
section
variable {W:World}
section
variable {P:Program}{fn:FuncId}{tm:BE}{k:List Item}{ds:List Deferred}{kd:CallKind}{rd:Option Nat}{cs:List Frame}
theorem wi{a b:Code}:step P (lone ⟨fn,tm,.code (.seq a b)::k,ds,.run,kd,rd⟩ cs W)= .next (lone ⟨fn,tm,.code a:: .code b::k,ds,.run,kd,rd⟩ cs W):=step_lone_go (by simp[stepG,stepG.exec])
theorem sg:step P (lone ⟨fn,tm,.code .skip::k,ds,.run,kd,rd⟩ cs W)= .next (lone ⟨fn,tm,k,ds,.run,kd,rd⟩ cs W):=step_lone_go (by simp[stepG,stepG.exec])
theorem qE{l:Nat}:step P (lone ⟨fn,tm,.code (.label l)::k,ds,.run,kd,rd⟩ cs W)= .next (lone ⟨fn,tm,k,ds,.run,kd,rd⟩ cs W):=step_lone_go (by simp[stepG,stepG.exec])
theorem dJ{l:Nat}:step P (lone ⟨fn,tm,.inBlock l::k,ds,.run,kd,rd⟩ cs W)= .next (lone ⟨fn,tm,k,ds,.run,kd,rd⟩ cs W):=step_lone_go (by simp[stepG,stepG.exec])
theorem bg{b:Code}:step P (lone ⟨fn,tm,.inScope b::k,ds,.run,kd,rd⟩ cs W)= .next (lone ⟨fn,tm,k,ds,.run,kd,rd⟩ cs W):=step_lone_go (by simp[stepG,stepG.exec])
theorem nL{l:Nat}{b:Code}:step P (lone ⟨fn,tm,.code (.block l b)::k,ds,.run,kd,rd⟩ cs W)= .next (lone ⟨fn,tm,.code b:: .inBlock l::k,ds,.run,kd,rd⟩ cs W):=step_lone_go (by simp[stepG,stepG.exec])
theorem uo{b:Code}:step P (lone ⟨fn,tm,.code (.loop b)::k,ds,.run,kd,rd⟩ cs W)= .next (lone ⟨fn,tm,.code b:: .inLoop b::k,ds,.run,kd,rd⟩ cs W):=step_lone_go (by simp[stepG,stepG.exec])
theorem jk{b:Code}:step P (lone ⟨fn,tm,.inLoop b::k,ds,.run,kd,rd⟩ cs W)= .next (lone ⟨fn,tm,.code b:: .inLoop b::k,ds,.run,kd,rd⟩ cs W):=step_lone_go (by simp[stepG,stepG.exec])
theorem pQ{b:Code}:step P (lone ⟨fn,tm,.code (.scope b)::k,ds,.run,kd,rd⟩ cs W)= .next (lone ⟨fn,tm,.code b:: .inScope b::k,ds,.run,kd,rd⟩ cs W):=step_lone_go (by simp[stepG,stepG.exec])
theorem sb{c:Operand}{a b:Code}{x:Bool}(h:Frame.eval ⟨fn,tm,.code (.cond c a b)::k,ds,.run,kd,rd⟩ c= .bool x):
 step P (lone ⟨fn,tm,.code (.cond c a b)::k,ds,.run,kd,rd⟩ cs W)= .next (lone ⟨fn,tm,.code (bif x then a else b)::k,ds,.run,kd,rd⟩ cs W):=
 step_lone_go (by cases x<;>simp[stepG,stepG.exec,h])
theorem tK{id:Nat}{k':List Item}(h:exitTo id k=some k'):step P (lone ⟨fn,tm,.code (.exit id)::k,ds,.run,kd,rd⟩ cs W)= .next (lone ⟨fn,tm,k',ds,.run,kd,rd⟩ cs W):=
 step_lone_go (by simp[stepG,stepG.exec,h])
theorem lH{id:Nat}{ops:Array Oper}:step P (lone ⟨fn,tm,.code (.region id ops false)::k,ds,.run,kd,rd⟩ cs W)= .next (lone ⟨fn,tm,.inRegion ops (List.range ops.size)::k,ds,.run,kd,rd⟩ cs W):=step_lone_go (by simp[stepG,stepG.exec])
theorem OY{ops:Array Oper}:step P (lone ⟨fn,tm,.inRegion ops []::k,ds,.run,kd,rd⟩ cs W)= .next (lone ⟨fn,tm,k,ds,.run,kd,rd⟩ cs W):=step_lone_go (by simp[stepG,stepG.exec])
theorem P3{ops:Array Oper}{i:Nat}{o:Oper}{rest:AP}(ho:ops[i]? = some o)(hw:Region.wanted o (yielded ops tm)=false):
 step P (lone ⟨fn,tm,.inRegion ops (i::rest)::k,ds,.run,kd,rd⟩ cs W)= .next (lone (Frame.finish ⟨fn,tm,.inRegion ops (i::rest)::k,ds,.run,kd,rd⟩ Go.undef) cs W):=
 step_lone_go (by simp[stepG,stepG.exec,ho,hw])
theorem jM{ops:Array Oper}{i:Nat}{o:Oper}{rest:AP}(ho:ops[i]? = some o)(hw:Region.wanted o (yielded ops tm)=true)(hnd:∀c,o.op= .defer c->rd=none){nx:Next}{v:Value}{W':World}(hr:(execOp (Frame.eval ⟨fn,tm,.inRegion ops (i::rest)::k,ds,.run,kd,rd⟩) o).run P W= .ok nx W')(hf:Fin nx v):
 step P (lone ⟨fn,tm,.inRegion ops (i::rest)::k,ds,.run,kd,rd⟩ cs W)= .next (lone (Frame.finish ⟨fn,tm,.inRegion ops (i::rest)::k,ds,.run,kd,rd⟩ v) cs W'):=by
 refine step_lone_go ?_;have hop:stepG.oper P true ⟨fn,tm,.inRegion ops (i::rest)::k,ds,.run,kd,rd⟩ cs none W=stepG.apply P true ⟨fn,tm,.inRegion ops (i::rest)::k,ds,.run,kd,rd⟩ cs none (execOp (Frame.eval ⟨fn,tm,.inRegion ops (i::rest)::k,ds,.run,kd,rd⟩) o) W:=by
  simp only[stepG.oper,Frame.oper?,ho];cases rd with
  | none=>rfl
  | some l=>cases hq:o.op with
   | defer c=>exact absurd (hnd c hq) (by simp)
   | _=>rfl
 simp only[stepG,stepG.exec,ho,hw,AA8,ABZ,ACA];rw[hop];rcases hf with rfl | ⟨rfl,rfl⟩<;>simp[stepG.apply,hr]
theorem da{ops:Array Oper}{i:Nat}{o:Oper}{rest:AP}(ho:ops[i]? = some o)(hw:Region.wanted o (yielded ops tm)=true)(hnd:∀c,o.op= .defer c->rd=none){W':World}(hr:(execOp (Frame.eval ⟨fn,tm,.inRegion ops (i::rest)::k,ds,.run,kd,rd⟩) o).run P W= .ok .recover W')(hrd:rd=none)(hn:tryRecover ⟨fn,tm,.inRegion ops (i::rest)::k,ds,.run,kd,rd⟩ cs=none):
 step P (lone ⟨fn,tm,.inRegion ops (i::rest)::k,ds,.run,kd,rd⟩ cs W)= .next (lone (Frame.finish ⟨fn,tm,.inRegion ops (i::rest)::k,ds,.run,kd,rd⟩ .nilIface) cs W'):=by
 refine step_lone_go ?_;have hop:stepG.oper P true ⟨fn,tm,.inRegion ops (i::rest)::k,ds,.run,kd,rd⟩ cs none W=stepG.apply P true ⟨fn,tm,.inRegion ops (i::rest)::k,ds,.run,kd,rd⟩ cs none (execOp (Frame.eval ⟨fn,tm,.inRegion ops (i::rest)::k,ds,.run,kd,rd⟩) o) W:=by
  simp only[stepG.oper,Frame.oper?,ho];cases rd with
  | none=>rfl
  | some l=>cases hq:o.op with
   | defer c=>exact absurd (hnd c hq) (by simp)
   | _=>rfl
 simp only[stepG,stepG.exec,ho,hw,AA8,ABZ,ACA];rw[hop];subst hrd;simp[stepG.apply,hr,hn]
theorem ua{ops:Array Oper}{i:Nat}{o:Oper}{rest:AP}(ho:ops[i]? = some o)(hw:Region.wanted o (yielded ops tm)=true)(hnd:∀c,o.op= .defer c->rd=none){f:FuncId}{args:BE}{W':World}(hr:(execOp (Frame.eval ⟨fn,tm,.inRegion ops (i::rest)::k,ds,.run,kd,rd⟩) o).run P W= .ok (.enter f args) W'):
 step P (lone ⟨fn,tm,.inRegion ops (i::rest)::k,ds,.run,kd,rd⟩ cs W)= .next (lone (Frame.enter P f args .normal) (⟨fn,tm,.inRegion ops (i::rest)::k,ds,.run,kd,rd⟩::cs) W'):=by
 refine step_lone_go ?_;have hop:stepG.oper P true ⟨fn,tm,.inRegion ops (i::rest)::k,ds,.run,kd,rd⟩ cs none W=stepG.apply P true ⟨fn,tm,.inRegion ops (i::rest)::k,ds,.run,kd,rd⟩ cs none (execOp (Frame.eval ⟨fn,tm,.inRegion ops (i::rest)::k,ds,.run,kd,rd⟩) o) W:=by
  simp only[stepG.oper,Frame.oper?,ho];cases rd with
  | none=>rfl
  | some l=>cases hq:o.op with
   | defer c=>exact absurd (hnd c hq) (by simp)
   | _=>rfl
 simp only[stepG,stepG.exec,ho,hw,AA8,ABZ,ACA];rw[hop];simp[stepG.apply,hr]
theorem ou{ops:Array Oper}{i:Nat}{o:Oper}{rest:AP}(ho:ops[i]? = some o)(hw:Region.wanted o (yielded ops tm)=true)(hnd:∀c,o.op= .defer c->rd=none){l f:Nat}{t:BE}{a b:Code}{W':World}(hr:(execOp (Frame.eval ⟨fn,tm,.inRegion ops (i::rest)::k,ds,.run,kd,rd⟩) o).run P W= .ok (.round l f t a b) W'):
 step P (lone ⟨fn,tm,.inRegion ops (i::rest)::k,ds,.run,kd,rd⟩ cs W)= .next (lone (Frame.round l f t a b .normal) (⟨fn,tm,.inRegion ops (i::rest)::k,ds,.run,kd,rd⟩::cs) W'):=by
 refine step_lone_go ?_;have hop:stepG.oper P true ⟨fn,tm,.inRegion ops (i::rest)::k,ds,.run,kd,rd⟩ cs none W=stepG.apply P true ⟨fn,tm,.inRegion ops (i::rest)::k,ds,.run,kd,rd⟩ cs none (execOp (Frame.eval ⟨fn,tm,.inRegion ops (i::rest)::k,ds,.run,kd,rd⟩) o) W:=by
  simp only[stepG.oper,Frame.oper?,ho];cases rd with
  | none=>rfl
  | some l=>cases hq:o.op with
   | defer c=>exact absurd (hnd c hq) (by simp)
   | _=>rfl
 simp only[stepG,stepG.exec,ho,hw,AA8,ABZ,ACA];rw[hop];simp[stepG.apply,hr]
theorem nC{ops:Array Oper}{i:Nat}{o:Oper}{rest:AP}{d:Deferred}(ho:ops[i]? = some o)(hw:Region.wanted o (yielded ops tm)=true)(hr:(execOp (Frame.eval ⟨fn,tm,.inRegion ops (i::rest)::k,ds,.run,kd,none⟩) o).run P W= .ok (.defer d) W):
 step P (lone ⟨fn,tm,.inRegion ops (i::rest)::k,ds,.run,kd,none⟩ cs W)= .next (lone (Frame.finish ⟨fn,tm,.inRegion ops (i::rest)::k,d::ds,.run,kd,none⟩ Go.undef) cs W):=by
 refine step_lone_go ?_;simp only[stepG,stepG.exec,ho,hw,AA8,ABZ,ACA,stepG.oper,Frame.oper?];simp[stepG.apply,hr]
theorem mE(todo:List Item)(h:todo=[]\/∃k,todo= .code .ret::k):step P (lone ⟨fn,tm,todo,ds,.run,kd,none⟩ cs W)= .next (lone ⟨fn,tm,todo,ds,.returning,kd,none⟩ cs W):=by
 rcases h with rfl | ⟨k,rfl⟩<;>exact step_lone_go (by simp[stepG,stepG.exec])
theorem YU{f:FuncId}{args:BE}{d:Deferred}{todo:List Item}{W':World}(hnc:∀b,d.target≠ .collected b)(hr:(invoke d.target d.args).run P W= .ok (.enter f args) W'):
 step P (lone ⟨fn,tm,todo,d::ds,.returning,kd,rd⟩ cs W)= .next (lone (Frame.enter P f args .deferred) (⟨fn,tm,todo,ds,.returning,kd,rd⟩::cs) W'):=by
 refine step_lone_go ?_;obtain⟨t,a⟩:=d;cases t<;>first | exact absurd rfl (hnc _) | simp[stepG,unwind,callDeferred,hr]
theorem Ql{b:Nat}{a:BE}{l:List Deferred}{todo:List Item}{W':World}(hr:(Instr.takeDeferred b).run P W= .ok l W'):
 step P (lone ⟨fn,tm,todo,⟨.collected b,a⟩::ds,.returning,kd,rd⟩ cs W)= .next (lone ⟨fn,tm,todo,l++ds,.returning,kd,rd⟩ cs W'):=
 step_lone_go (by simp[stepG,unwind,hr])
theorem fb{f:Func}{v:Value}{todo:List Item}{c:Frame}(hf:P.funcs[fn]? = some f)(hr:(results f tm).run P W= .ok v W):
 step P (lone ⟨fn,tm,todo,[],.returning,.normal,rd⟩ (c::cs) W)= .next (lone (c.finish v) cs W):=
 step_lone_go (by simp[stepG,unwind,doReturn,hf,hr])
theorem dR{f:Func}{v:Value}{todo:List Item}{c:Frame}(hf:P.funcs[fn]? = some f)(hr:(results f tm).run P W= .ok v W)(hm:c.mode= .returning\/c.mode= .run):
 step P (lone ⟨fn,tm,todo,[],.returning,.deferred,rd⟩ (c::cs) W)= .next (lone c cs W):=by
 obtain⟨a1,a2,a3,a4,a5,a6,a7⟩:=c;rcases hm with hm | hm<;>(simp only at hm;subst hm;exact step_lone_go (by simp[stepG,unwind,doReturn,hf,hr]))
end
section
variable {P:Program}{fn:FuncId}{tm:BE}{k:List Item}{ds:List Deferred}{kd:CallKind}{rd:Option Nat}{cs:List Frame}
theorem HA{w:World}{l:Nat}{r:Loop}(h:w.heap[l]? = some (.loop r)):(Instr.getLoop l).run P w= .ok r w:=by
 simp[Instr.getLoop,Kd (P:=P) h (by intro c t f;simp)]
theorem M9{l:Nat}{r:Loop}{j:Option Code}(h:W.heap[l]? = some (.loop r)):(Instr.endRound l j).run P W=
 .ok (.bool j.isNone) { W with heap:=W.heap.setIfInBounds l (.loop { r with state:=if j.isNone then .ready else .done,pending:=j }) }:=by
 simp[Instr.endRound,HA (P:=P) h,HF (P:=P) h (by intro c t f;simp)]
theorem YB{l:Nat}{r:Loop}{j:Option Code}{c:Frame}{todo:List Item}(h:W.heap[l]? = some (.loop r))(ht:(todo=[]/\j=none)\/(∃k,todo= .code .ret::k/\j=some .ret)\/∃id k,todo= .code (.exit id)::k/\exitTo id k=none/\j=some (.exit id)):
 step P (lone ⟨fn,tm,todo,ds,.run,.normal,some l⟩ (c::cs) W)=
  .next (lone (c.finish (.bool j.isNone)) cs { W with heap:=W.heap.setIfInBounds l (.loop { r with state:=if j.isNone then .ready else .done,pending:=j }) }):=by
 have hr:=M9 (P:=P) (j:=j) h;rcases ht with⟨rfl,rfl⟩ | ⟨k,rfl,rfl⟩ | ⟨id,k,rfl,he,rfl⟩
 .exact step_lone_go (by simp[stepG,stepG.exec,hr,doReturn])
 .exact step_lone_go (by simp[stepG,stepG.exec,hr,doReturn])
 .exact step_lone_go (by simp[stepG,stepG.exec,hr,doReturn,he])
theorem TV{l:Nat}{r:Loop}(h:W.heap[l]? = some (.loop r))(hs:r.state= .ready):
 step P (lone ⟨fn,tm,.beginRound::k,ds,.run,kd,some l⟩ cs W)= .next (lone ⟨fn,tm,k,ds,.run,kd,some l⟩ cs { W with heap:=W.heap.setIfInBounds l (.loop { r with state:= .busy }) }):=by
 have hr:(Instr.beginRound l).run P W= .ok () { W with heap:=W.heap.setIfInBounds l (.loop { r with state:= .busy }) }:=by
  simp[Instr.beginRound,HA (P:=P) h,HF (P:=P) h (by intro c t f;simp),hs]
 refine step_lone_go ?_;simp only[stepG,stepG.exec,Option.elim];simp[stepG.apply,hr,Frame.finish]
theorem dv{l:Nat}{r:Loop}(h:W.heap[l]? = some (.loop r))(hs:r.state≠ .busy):
 step P (lone ⟨fn,tm,.endRangeFunc l::k,ds,.run,kd,rd⟩ cs W)= .next (lone ⟨fn,tm,(r.pending.map Item.code).toList++k,ds,.run,kd,rd⟩ cs { W with heap:=W.heap.setIfInBounds l (.loop { r with state:= .exhausted }) }):=by
 have hr:(Instr.endLoop l).run P W= .ok r.pending { W with heap:=W.heap.setIfInBounds l (.loop { r with state:= .exhausted }) }:=by
  simp[Instr.endLoop,HA (P:=P) h,HF (P:=P) h (by intro c t f;simp),hs]
 exact step_lone_go (by simp[stepG,stepG.exec,hr])
end
theorem Rk{fn:FuncId}{tm:BE}{ps:Array Tmp}{a b:Code}{P:Program}:(Instr.enterLoop fn tm ps a b none).run P W=
 .ok (W.heap.size+1,[{ target:= .collected W.heap.size,args:=#[] }]) ((W.alloc (.deferred (some []))).alloc (.loop { state:= .ready,pending:=none,fn,tmps:=tm,params:=ps,assign:=a,body:=b,defers:=W.heap.size })):=by
 simp[Instr.enterLoop]
theorem Qf{fn:FuncId}{tm:BE}{ps:Array Tmp}{a b:Code}{P:Program}{l:Nat}{r:Loop}(h:W.heap[l]? = some (.loop r)):(Instr.enterLoop fn tm ps a b (some l)).run P W=
 .ok (W.heap.size,[]) (W.alloc (.loop { state:= .ready,pending:=none,fn,tmps:=tm,params:=ps,assign:=a,body:=b,defers:=r.defers })):=by
 simp[Instr.enterLoop,HA (P:=P) h]
section
variable {P:Program}{fn:FuncId}{tm:BE}{k:List Item}{ds:List Deferred}{kd:CallKind}{rd:Option Nat}{cs:List Frame}
theorem V5{f:Operand}{ps:Array Tmp}{a b:Code}{l:Nat}{mark:List Deferred}{W' W2:World}{g:FuncId}{args:BE}(hl:(Instr.enterLoop fn tm ps a b rd).run P W= .ok (l,mark) W')(hr:(do let d ←resolve (Frame.eval ⟨fn,tm,.inRangeFunc l::k,mark++ds,.run,kd,rd⟩) { callee:= .value f,args:=#[.const (.func (.yield l) #[] #[])],argTypes:=#[] } 0;invoke d.target d.args:Sem Next).run P W'= .ok (.enter g args) W2):
 step P (lone ⟨fn,tm,.code (.rangeFunc f ps a b)::k,ds,.run,kd,rd⟩ cs W)= .next (lone (Frame.enter P g args .normal) (⟨fn,tm,.inRangeFunc l::k,mark++ds,.run,kd,rd⟩::cs) W2):=by
 refine step_lone_go ?_;simp only[stepG,stepG.exec,Sem.runT_eq,hl,GStep.bare_after];simp only[stepG.apply,Sem.runT_eq,ACA,GStep.bare_after];rw[hr];rfl
theorem UY{f:Operand}{ps:Array Tmp}{a b:Code}{l:Nat}{mark:List Deferred}{W' W2:World}{l2 g:Nat}{t2:BE}{a2 b2:Code}(hl:(Instr.enterLoop fn tm ps a b rd).run P W= .ok (l,mark) W')(hr:(do let d ←resolve (Frame.eval ⟨fn,tm,.inRangeFunc l::k,mark++ds,.run,kd,rd⟩) { callee:= .value f,args:=#[.const (.func (.yield l) #[] #[])],argTypes:=#[] } 0;invoke d.target d.args:Sem Next).run P W'= .ok (.round l2 g t2 a2 b2) W2):
 step P (lone ⟨fn,tm,.code (.rangeFunc f ps a b)::k,ds,.run,kd,rd⟩ cs W)= .next (lone (Frame.round l2 g t2 a2 b2 .normal) (⟨fn,tm,.inRangeFunc l::k,mark++ds,.run,kd,rd⟩::cs) W2):=by
 refine step_lone_go ?_;simp only[stepG,stepG.exec,Sem.runT_eq,hl,GStep.bare_after];simp only[stepG.apply,Sem.runT_eq,ACA,GStep.bare_after];rw[hr];rfl
end
end
section
variable {X:Ctx}{base:Env}{W0:World}{Z:AW}{H:AA}{W:World}
theorem FW.flush{μ':AW}{G':List (Nat × Nat)}{ops:Array Oper}{t:Tr Value}{n j d:Nat}{tm:BE}{D:AP}{BP:List PE}{idx:AP}{G:List (Nat × Nat)}{Fact:Nat->Oper->Nat->Prop}{o:Oper}{v':Value}(h:FW X Z H ops t n tm D BP (j::idx) G Fact)(ho:ops[j]? = some o)(hjD:j∈D)(hd:o.dst=some d)(hle:Z.le μ')(hv:AF μ' (look t d) v')(hG:∀i b,i≠j->(i,b)∈G->b < H.next->Z b=none->(i,b)∈G'/\μ' b=none)(hsub:(G'.map Prod.snd).Sublist (G.map Prod.snd)):FW X μ' H ops t n (tm.setIfInBounds d v') D BP idx G' Fact:=by
 obtain⟨⟨o2,ho2,hdx⟩,hji,htopo⟩:=h.J7;rw[ho]at ho2;cases ho2
 refine⟨h.stat,h.wf,h.Uu,htopo,?_,h.ev,by simp[h.sz],?_,?_,h.ep,h.gO.sublist hsub,fun b hb=>h.eY b (hsub.subset hb)⟩
 .intro i oi hi hni
  by_cases e:i=j
  .subst e;rw[ho]at hi;cases hi
   exact⟨hjD,fun q hq hm=>hdx q hq (by simp[hm])⟩
  .obtain⟨h1,h2⟩:=h.Wv i oi hi (by simp[e,hni]);exact⟨h1,fun q hq hm=>h2 q hq (by simp[hm])⟩
 .intro u hu
  by_cases e:u=d
  .subst e;rw[Lp _ _ (by rw[h.sz];exact h.ep j o u ho hjD hd)];exact hv
  .rw[Md _ _ e];refine(h.tmp u ?_).mono hle;intro i oi hi hiD him;rcases List.mem_cons.1 him with rfl | him
   .rw[ho]at hi;cases hi
    rw[hd];simp;exact fun q=>e q.symm
   .exact hu i oi hi hiD him
 .intro i oi hi hiD him;have hij:i≠j:=by rintro rfl;exact hji him
  obtain⟨q,h1,h0,h2⟩:=h.mB i oi hi hiD (by simp[him]);refine⟨q,h1,h0,?_⟩;rcases h2 with h2 | h2 | ⟨a,b,c,hc,obj,mk,e1,e2,e3,e4,e5⟩
  .exact .inl h2
  .exact .inr (.inl h2)
  .obtain⟨g1,g2⟩:=hG i c hij hc e3 e4;exact .inr (.inr ⟨a,b,c,g1,obj,mk,e1,e2,e3,g2,e5⟩)
theorem dj{G:List (Nat × Nat)}(h:(G.map Prod.snd).Nodup){i j b:Nat}(hi:(i,b)∈G)(hj:(j,b)∈G):i=j:=by
 induction G with
 | nil=>cases hi
 | cons a G ih=>
  simp only[AAn,ABS]at h;rcases List.mem_cons.1 hi with e1 | hi'<;>rcases List.mem_cons.1 hj with e2 | hj'
  .rw[<-e1]at e2;cases e2;rfl
  .exact absurd (List.mem_map.2 ⟨_,hj',rfl⟩) (by rw[<-e1]at h;exact h.1)
  .exact absurd (List.mem_map.2 ⟨_,hi',rfl⟩) (by rw[<-e2]at h;exact h.1)
  .exact ih h.2 hi' hj'
theorem FW.reads{ops:Array Oper}{t:Tr Value}{n j:Nat}{tm:BE}{D:AP}{BP:List PE}{idx:AP}{G:List (Nat × Nat)}{Fact:Nat->Oper->Nat->Prop}{o:Oper}(h:FW X Z H ops t n tm D BP (j::idx) G Fact)(ho:ops[j]? = some o):
 ∀u∈FA ops o,AF Z (look t u) (tm.getD u Go.undef):=by
 intro u hu;obtain⟨⟨o2,ho2,hdx⟩,_,_⟩:=h.J7;rw[ho]at ho2;cases ho2
 refine h.tmp u fun i oi hi hiD him e=>?_
 rcases L4 h.stat ho hi hu e with q | q
 .exact hdx i q him
 .obtain⟨_,_,hc,_⟩:=h.mB i oi hi hiD him;exact hc q.1
theorem TF{P:Program}{o:Oper}(h:CI P o≠2):∀c,o.op≠ .defer c:=by
 intro c e;unfold CI at h;rw[e]at h;exact h rfl
open Classical in
def only(o:Oper)(ρ:Operand->Value):Operand->Value:=fun x=>if x∈o.op.operands then ρ x else Bo
theorem Pc(o:Oper)(ρ:Operand->Value):∀x∈o.op.operands,only o ρ x=ρ x:=fun x hx=>by simp[only,hx]
theorem Pn{o:Oper}{ρ ρ':Operand->Value}(h:∀x∈o.op.operands,AF Z (ρ x) (ρ' x)):∀x,AF Z (only o ρ x) (ρ' x):=by
 intro x;unfold only;split
 .rename_i hx;exact h x hx
 .exact .Bo _
theorem kZ{ops:Array Oper}{t:Tr Value}{n j:Nat}{tm:BE}{D:AP}{BP:List PE}{idx:AP}{G:List (Nat × Nat)}{fn:FuncId}{k':List Item}{ds':List Deferred}{kd:CallKind}{rd':Option Nat}{cs:List Frame}(hH:AH base W0 Z H W)(hlaid:BX X Z)(hD:FW X Z H ops t n tm D BP (j::idx) G (FB X H t BP))(hjD:j∈D)(hnl:j∉lead BP):
 ∃μ' W' tm' G',step X.P (lone ⟨fn,tm,.inRegion ops (j::idx)::k',ds',.run,kd,rd'⟩ cs W)= .next (lone ⟨fn,tm',.inRegion ops idx::k',ds',.run,kd,rd'⟩ cs W')/\AH base W0 μ' H W'/\
  FW X μ' H ops t n tm' D BP idx G' (FB X H t BP)/\(∀gs,(G.map Prod.snd++gs).Nodup->Fq gs Z H μ' H)/\(G'.map Prod.snd).Sublist (G.map Prod.snd):=by
 obtain⟨⟨o,ho,hdx⟩,hji,htopo⟩:=hD.J7;have hreads:=hD.reads ho;obtain⟨d,hd,_,hp⟩:=hD.mB j o ho hjD (by simp);have hwant:∀b,DK ops o t=some b->Region.wanted o (yielded ops tm)=b:=fun b hb=>KL (fun q w u hg hu=>hreads u (Kn hg hu)) hb
 have hev:∀x∈o.op.operands,AF Z (Bs X t x) (Frame.eval ⟨fn,tm,.inRegion ops (j::idx)::k',ds',.run,kd,rd'⟩ x):=fun x hx=>Nt hlaid x fun u hu=>hreads u (NZ (by rw[<-hu];exact hx))
 have hfin:∀v,Frame.finish ⟨fn,tm,.inRegion ops (j::idx)::k',ds',.run,kd,rd'⟩ v=⟨fn,tm.setIfInBounds d v,.inRegion ops idx::k',ds',.run,kd,rd'⟩:=fun v=>by simp only[Frame.finish,ho,AAv,hd]
 have hnd:CI X.P o≠2->∀c,o.op= .defer c->rd'=none:=fun hc c e=>absurd e (TF hc c)
 rcases hp with⟨hw,hl⟩ | ⟨hw,hc,hf⟩ | ⟨hw,hc,b,hb,obj,mk,e1,e2,e3,e4,e5⟩
 .refine⟨Z,W,_,G,?_,hH,hD.flush ho hjD hd (AW.le_refl _) (v':=Go.undef) (by rw[hl];exact AF.undef Z) (fun i b _ hb _ hm=>⟨hb,hm⟩) (AB8 _),fun gs _=>Fq.refl _ _ _,AB8 _⟩;rw[P3 ho (hwant false hw),hfin]
 .rcases hf with hf | ⟨H1,hf⟩
  .exact absurd hf hnl
  .obtain⟨rfl,_⟩:=Qd hc hf;rw[<-JC o (Pc o (Bs X t))]at hf;obtain⟨μ',nx,v',W',r1,r2,r3,r4,r5⟩:=aI hH (Pn hev) hf;refine⟨μ',W',_,G,?_,r3,hD.flush ho hjD hd r5.le r4 (fun i b _ hb hlt hm=>⟨hb,(r5.ghost b hlt hm).1⟩) (AB8 _),fun gs _=>r5.keeps gs,AB8 _⟩;rw[jM ho (hwant true hw) (hnd (by omega)) r1 r2,hfin]
 .have hio:L8 X.P (only o (Bs X t)) o H=some (mk H.next,H.alloc obj):=by rw[JC o (Pc o (Bs X t))];exact e2 H
  obtain⟨obj2,mk2,q1,q2,q3,q4,q5⟩:=bC hc hio;have hobj:obj2=obj:=by
   have:=congrArg (fun h:AA=>h.get H.next) q2;simp only[AA.AN,ACA]at this;cases this;rfl
  have hmk:∀b,mk2 b=mk b:=by
   intro b;have h1:=q3 ⟨.leaf,b⟩;rw[JC o (Pc o (Bs X t)),e2]at h1;simp only[AAN,AAm]at h1;exact h1.1.symm
  subst hobj;obtain⟨o',T,v',r1,r2,r3,r4⟩:=q5 Z W _ (Pn hev);have hle:=AW.CV T e4;have hsub:((G.filter fun p=>decide (p.2≠b)).map Prod.snd).Sublist (G.map Prod.snd):=(List.filter_sublist).map _;refine⟨Z.ext b T,W.alloc o',_,G.filter fun p=>decide (p.2≠b),?_,hH.settle e5 e4 r2 r3 q4.2,hD.flush ho hjD hd hle (by rw[e1,<-hmk];exact r4 b) (fun i b' hij hb' _ hm=>?_) hsub,fun gs hnd=>?_,hsub⟩
  .rw[jM ho (hwant true hw) (hnd (by omega)) r1 (.inl rfl),hfin]
  .have hne:b'≠b:=by rintro rfl;exact hij (dj hD.gO hb' hb)
   exact⟨List.mem_filter.2 ⟨hb',by simp[hne]⟩,by rw[AW.BB _ _ hne];exact hm⟩
  .refine⟨hle,AAT _,fun b' hb' _ hm=>⟨?_,rfl⟩⟩;have hne:b'≠b:=by
    rintro rfl;exact(List.nodup_append.1 hnd).2.2 b' (List.mem_map.2 ⟨_,hb,rfl⟩) b' hb' rfl
   rw[AW.BB _ _ hne];exact hm
theorem jf{ops:Array Oper}{t:Tr Value}{n:Nat}{D:AP}{BP:List PE}{fn:FuncId}{k':List Item}{ds':List Deferred}{kd:CallKind}{rd':Option Nat}{cs:List Frame}{gs:AP}(hnl:lead BP=[]):
 ∀(idx:AP)(Z:AW)(W:World)(tm:BE)(G:List (Nat × Nat)),AH base W0 Z H W->BX X Z->FW X Z H ops t n tm D BP idx G (FB X H t BP)->(∀j∈idx,j∈D)->(G.map Prod.snd++gs).Nodup->
  ∃μ' W' tm' G',Steps X.P (lone ⟨fn,tm,.inRegion ops idx::k',ds',.run,kd,rd'⟩ cs W) (lone ⟨fn,tm',.inRegion ops []::k',ds',.run,kd,rd'⟩ cs W')/\AH base W0 μ' H W'/\FW X μ' H ops t n tm' D BP [] G' (FB X H t BP)/\Fq gs Z H μ' H:=by
 intro idx;induction idx with
 | nil=>intro Z W tm G hH _ hD _ _;exact⟨Z,W,tm,G,.refl _ _,hH,hD,Fq.refl _ _ _⟩
 | cons j idx ih=>
  intro Z W tm G hH hl hD hall hnd;obtain⟨μ1,W1,Ot,G1,h1,h2,h3,h4,h5⟩:=kZ (fn:=fn) (k':=k') (ds':=ds') (kd:=kd) (rd':=rd') (cs:=cs) hH hl hD (hall j (by simp)) (by rw[hnl];simp);have hk:=h4 gs hnd;obtain⟨μ2,W2,tm2,G2,q1,q2,q3,q4⟩:=ih μ1 W1 Ot G1 h2 (hl.mono hk.le) h3 (fun j hj=>hall j (by simp[hj])) (hnd.sublist (h5.append (AB8 _)));exact⟨μ2,W2,tm2,G2,.head h1 q1,q2,q3,hk.trans q4⟩
theorem pg{ops:Array Oper}{t:Tr Value}{n x:Nat}{o:Oper}{D:AP}{rest:List PE}{fn:FuncId}{k':List Item}{ds':List Deferred}{kd:CallKind}{rd':Option Nat}{cs:List Frame}{gs:AP}(hcls:CI X.P o=2):
 ∀(idx:AP)(Z:AW)(W:World)(tm:BE)(G:List (Nat × Nat)),AH base W0 Z H W->BX X Z->FW X Z H ops t n tm D (.op x o::rest) idx G (FB X H t (.op x o::rest))->x∈idx->(G.map Prod.snd++gs).Nodup->
  ∃μ' W' tm' G' idx',Steps X.P (lone ⟨fn,tm,.inRegion ops idx::k',ds',.run,kd,rd'⟩ cs W) (lone ⟨fn,tm',.inRegion ops (x::idx')::k',ds',.run,kd,rd'⟩ cs W')/\AH base W0 μ' H W'/\
   FW X μ' H ops t n tm' D (.op x o::rest) (x::idx') G' (FB X H t (.op x o::rest))/\Fq gs Z H μ' H/\(G'.map Prod.snd).Sublist (G.map Prod.snd):=by
 intro idx;induction idx with
 | nil=>intro Z W tm G _ _ _ hx;cases hx
 | cons j idx ih=>
  intro Z W tm G hH hl hD hx hnd
  by_cases e:j=x
  .subst e;exact⟨Z,W,tm,G,idx,.refl _ _,hH,hD,Fq.refl _ _ _,AB8 _⟩
  .have hjD:j∈D:=by
    obtain⟨⟨oj,hoj,hdx⟩,_,_⟩:=hD.J7;obtain⟨_,_,_,hc⟩:=Hy hD.Uu;rcases(hc hcls).1 j oj hoj with h1 | h1 | h1
    .exact h1
    .exact absurd h1 e
    .exfalso;refine O9 (ops:=ops.toList) (fun i=>i∉j::idx) (fun i oi hi hni=>?_) _ _ _ (fun q hq=>hdx q hq) (fun q hq=>by cases hq) x h1 hx;rw[AAx]at hi;exact(hD.Wv i oi hi hni).2
   obtain⟨μ1,W1,Ot,G1,h1,h2,h3,h4,h5⟩:=kZ (fn:=fn) (k':=k') (ds':=ds') (kd:=kd) (rd':=rd') (cs:=cs) hH hl hD hjD (by simp[lead]);have hk:=h4 gs hnd;have hx':x∈idx:=by
    rcases List.mem_cons.1 hx with h | h
    .exact absurd h.symm e
    .exact h
   obtain⟨μ2,W2,tm2,G2,idx2,q1,q2,q3,q4,q5⟩:=ih μ1 W1 Ot G1 h2 (hl.mono hk.le) h3 hx' (hnd.sublist (h5.append (AB8 _)));exact⟨μ2,W2,tm2,G2,idx2,.head h1 q1,q2,q3,hk.trans q4,q5.trans h5⟩
theorem FW.suspend{ops:Array Oper}{t:Tr Value}{n x:Nat}{tm:BE}{o:Oper}{D:AP}{rest:List PE}{idx:AP}{G:List (Nat × Nat)}(hcls:CI X.P o=2)(hx:ops[x]? = some o)(h:FW X Z H ops t n tm D (.op x o::rest) (x::idx) G (FB X H t (.op x o::rest))):FW X Z H ops t n tm D (.op x o::rest) (x::idx) G (QV rest):=by
 refine⟨h.stat,h.wf,h.Uu,h.J7,h.Wv,h.ev,h.sz,h.tmp,fun i oi hi hiD him=>?_,h.ep,h.gO,h.eY⟩;refine(h.mB i oi hi hiD him).congr (fun _ _=>rfl) (fun _ _=>rfl) fun d _ _ hc0 _=>?_
 obtain⟨_,_,_,hc⟩:=Hy h.Uu;obtain⟨⟨o2,ho2,hdx⟩,_,_⟩:=h.J7;rw[hx]at ho2;cases ho2
 rcases(hc hcls).2 i oi hiD hi hc0 with h1 | h1
 .exfalso;refine O9 (ops:=ops.toList) (fun q=>q∉x::idx) (fun q oq hq hnq=>?_) _ _ _ (fun q hq=>hdx q hq) (fun q hq=>by cases hq) i h1 him;rw[AAx]at hq;exact(h.Wv q oq hq hnq).2
 .exact h1
end
section
variable {X:Ctx}{base:Env}{W0:World}{Z:AW}{H:AA}{W:World}
theorem iW:∀(args:AL)(i0:Nat)(t:Tr Value)(j:Nat),(CP i0 args t).get j=if i0<=j/\j < i0+args.length then args[j - i0]? else t.get j:=by
 intro args;induction args with
 | nil=>intro i0 t j;simp[CP];omega
 | cons v r ih=>
  intro i0 t j;simp only[CP];rw[ih,Tr.AQ]
  by_cases h1:j=i0
  .subst h1;rw[AAW (by omega),AAZ rfl,AAZ (by simp)];simp
  .by_cases h2:i0+1<=j/\j < i0+1+r.length
   .rw[AAZ h2,AAZ (by simp;omega)];obtain⟨q,rfl⟩:∃q,j=i0+1+q:=⟨j - (i0+1),by omega⟩
    have e1:i0+1+q - (i0+1)=q:=by omega
    have e2:i0+1+q - i0=q+1:=by omega
    rw[e1,e2,ABK]
   .rw[AAW h2,AAW h1,AAW (by simp;omega)]
theorem Nz{args:AL}{args':BE}{n:Nat}(ha:Af Z args args'.toList)(hn:args.length<=n):Gt Z (CP 0 args .leaf) n (args'++Array.replicate (n - args'.size) Go.undef):=by
 have hl:args.length=args'.size:=by have:=ha.length;simpa using this
 refine⟨by simp;omega,fun i=>?_⟩;unfold look;rw[iW]
 by_cases hi:i < args.length
 .rw[AAZ ⟨AA4 _,by omega⟩];obtain⟨v',h1,h2⟩:=ha.get? (AAU hi);rw[AAx]at h1;have:(args'++Array.replicate (n - args'.size) Go.undef).getD i Go.undef=v':=by
   rw[AAs,Array.getElem?_append_left (by omega),h1];rfl
  rw[this];simp only[ADF,AAU hi,ABZ];exact h2
 .rw[AAW (by omega),Tr.RA];have:(args'++Array.replicate (n - args'.size) Go.undef).getD i Go.undef=Go.undef:=by
   rw[AAs,Array.getElem?_append_right (by omega),ADA];split<;>rfl
  rw[this];exact AF.Bo _
theorem entry_eq{P:Program}{f:FuncId}{n:Nat}{c:Code}(h:entry P f=some (n,c)):∃fn,P.funcs[f]? = some fn/\fn.body=some c/\fn.ntmps=n/\(fn.name== "runtime.NumGoroutine")=false:=by
 unfold entry at h;split at h
 .rename_i fn hf;split at h
  .rename_i b hb;cases hn:(fn.name== "runtime.NumGoroutine")
   .rw[hn]at h;cases h;exact⟨fn,hf,hb,rfl,hn⟩
   .rw[hn]at h;cases h
  .cases h
 .cases h
theorem Jj{P:Program}{f:FuncId}{n:Nat}{c:Code}(h:entry P f=some (n,c))(args:BE)(w:World):(callFunc f args).run P w= .ok (.enter f args) w:=by
 obtain⟨fn,h1,h2,h3,h4⟩:=entry_eq h;have h5:¬fn.name= "runtime.NumGoroutine" := by simpa using h4
 simp[callFunc,h1,h2,h5]
theorem P4{P:Program}{f:FuncId}{n:Nat}{c:Code}(h:entry P f=some (n,c))(args:BE)(kind:CallKind):
 Frame.enter P f args kind=⟨f,args++Array.replicate (n - args.size) Go.undef,[.code c],[],.run,kind,none⟩:=by
 obtain⟨fn,h1,h2,h3,h4⟩:=entry_eq h;simp[Frame.enter,h1,h2,h3]
inductive Oc:AL->AL->Prop where
 | plain (l:AL) (h:l.all flat=true):Oc l l
 | iface (te:TypeId) (pe:Value):Oc [Bo] [.iface te pe]
theorem Oc.eq{l l':AL}(h:Oc l l')(hf:l.all flat=true):l'=l:=by
 cases h with
 | plain=>rfl
 | iface=>cases hf
def Dt(X:Ctx)(base:Env)(W0:World):Prop:=(X.laid.map Prod.fst).Nodup/\∀p∈X.laid,base.K p.1/\∃a t fz,W0.heap[p.1]? = some (.cells a t fz)/\Oc p.2 a.toList
def En(X:Ctx)(base:Env)(W0:World):Prop:=Dt X base W0/\∀f F,X.Hp f=some F->(∃n c,entry X.P f=some (n,c))/\∀Z H W (args:AL) (args':BE) v H',AH base W0 Z H W->BX X Z->Af Z args args'.toList->F args H=some (v,H')->
 Calls X.P f args' W fun e W'=>∃v' μ',e= .returned v'/\AH base W0 μ' H' W'/\AF μ' v v'/\Ah Z H μ' H'
theorem KT:∀(l l':AL),l.all flat=true->Af Z l l'->l'=l
 | [],_,_,h=>by cases h;rfl
 | a::l,_,hf,h=>by
  simp only[ABN,AAQ]at hf;cases h with
  | cons h1 h2=>rw[LN hf.1 h1,KT l _ hf.2 h2]
theorem QD(hok:En X base W0){g gs:AP}{fr:Ae}{cs:List Ae}{fr':Frame}{cs' cs0:List Frame}{f:FuncId}{args:AL}{args':BE}{c':BU}{m:Machine}(hH:AH base W0 Z H W)(hlaid:BX X Z)(hfr:Hi X Z H g fr fr')(hcs:EJ X Z H gs cs cs')(hnd:(g++gs).Nodup)(ha:Af Z args args'.toList)(hm:∀n c,entry X.P f=some (n,c)->Steps X.P m (lone (Frame.enter X.P f args' .normal) (fr'::(cs'++cs0)) W))(hmv:∀v,(callFunc f args').run X.P W= .ok (.value v) W->Steps X.P m (lone (fr'.finish v) (cs'++cs0) W))(hi:ID X f args .normal fr cs H=some c'):
 DW X base W0 cs0 c' m:=by
 unfold ID at hi;cases hat:B3 X f args .normal H with
 | none=>
  simp only[hat]at hi;split at hi
  .rename_i n c he;cases hle:Nat.ble args.length n
   .simp[hle]at hi
   .simp only[hle,AAO,AAN]at hi;subst hi;refine⟨Z,_,fr'::cs',W,hm n c he,hH,hlaid,[],g++gs,?_,.cons hfr hcs,hnd⟩;rw[P4 he];exact .plain f _ n _ _ _ [] [] false .normal none none (Nz ha (VC hle)) (.cons (.code c) .nil) .nil .none
  .cases hf:args.all flat
   .simp only[hf,AAR]at hi;cases hi
   .simp only[hf,AAO]at hi;split at hi
    .rename_i v hp;cases hfv:flat v
     .simp only[hfv,AAR]at hi;cases hi
     .simp only[hfv,AAO]at hi;split at hi
      .rename_i fr1 hfin;cases hi
       have he:args'=⟨args⟩:=by rw[<-ABx];exact KT args _ hf ha
       have hrun:(callFunc f args').run X.P W= .ok (.value v) W:=by rw[he];exact Ok hp W
       exact⟨Z,_,cs',W,hmv v hrun,hH,hlaid,g,gs,EE hfr (D4 hfv) hfin,hcs,hnd⟩
      .cases hi
    .cases hi
 | some p=>
  obtain⟨v,H'⟩:=p;simp only[hat]at hi;obtain⟨F,hin,hF⟩:∃F,X.Hp f=some F/\F args H=some (v,H'):=by
   unfold B3 at hat
   split at hat
   .rename_i F e;exact⟨F,e,hat⟩
   .cases hat
  .split at hi
   .rename_i fr1 hfin;cases hi
    obtain⟨⟨n,c,he⟩,hc⟩:=hok.2 f F hin;obtain⟨e,w',fx,⟨v',μ',rfl,h1,h2,h3⟩,hcomes,hfn,hleave⟩:=hc Z H W args args' v H' hH hlaid ha hF (fr'::(cs'++cs0));exact⟨μ',fr'.finish v',cs',w',(hm n c he).trans (Steps.trans hcomes (.one (step_leave_returned hleave))),h1,hlaid.mono h3.le,g,gs,EE (hfr.mono (h3.keeps g)) h2 hfin,hcs.mono (h3.keeps gs),hnd⟩
   .cases hi
theorem Rx:∀(ps:List Tmp)(vs vs':AL)(t:Tr Value)(n:Nat)(a:BE),Gt Z t n a->Af Z vs vs'->ps.all (fun p=>Nat.blt p n)=true->
 Gt Z (Hv ps vs t) n ((ps.zip vs').foldl (fun(tm:BE) (x:Tmp × Value)=>tm.setIfInBounds x.1 x.2) a):=by
 intro ps;induction ps with
 | nil=>intro vs vs' t n a ht _ _;simpa [Hv] using ht
 | cons p ps ih=>
  intro vs vs' t n a ht hv hp;simp only[ABN,AAQ]at hp;cases hv with
  | nil=>simpa [Hv] using ht
  | cons h1 h2=>
   simp only[Hv,List.zip_cons_cons,ACw];exact ih _ _ _ n _ (ht.put (VC hp.1) h1) h2 hp.2
theorem RQ{g gs:AP}{fr:Ae}{cs:List Ae}{fr':Frame}{cs' cs0:List Frame}{l:Nat}{T:BQ}{args:AL}{args':BE}{c':BU}{m:Machine}(hH:AH base W0 Z H W)(hlaid:BX X Z)(hfr:Hi X Z H g fr fr')(hcs:EJ X Z H gs cs cs')(hnd:(g++gs).Nodup)(ha:Af Z args args'.toList)(hl:Z l=some T)(hm:∀f t a b,(Instr.yield T.c args').run X.P W= .ok (.round T.c f t a b) W->Steps X.P m (lone (Frame.round T.c f t a b .normal) (fr'::(cs'++cs0)) W))(hi:YT l args fr cs H=some c'):
 DW X base W0 cs0 c' m:=by
 unfold YT at hi;split at hi
 .rename_i r hget;cases hc:(Nat.beq args.length r.params.size&&r.params.toList.all (fun p=>Nat.blt p r.n))
  .simp only[hc,AAR]at hi;cases hi
  .simp only[hc,AAO,AAN]at hi;subst hi;simp only[AAQ]at hc;have hlen:=AAP hc.1;obtain⟨o',ho',hor⟩:=hH.obj l _ hget T hl;cases hor with
   | loop _ a R ht hd=>
    have hsz:args'.size=r.params.size:=by
     have:args.length=args'.size:=by simpa using ha.length
     omega
    have hrun:(Instr.yield T.c args').run X.P W= .ok (.round T.c r.fn ((r.params.zip args').foldl (fun tmps (t,a)=>tmps.setIfInBounds t a) a) r.assign r.body) W:=by
     simp[Instr.yield,HA (P:=X.P) ho',hsz]
    refine⟨Z,_,fr'::cs',W,hm _ _ _ _ hrun,hH,hlaid,[],g++gs,?_,.cons hfr hcs,hnd⟩;have:=Rx r.params.toList args args'.toList r.tmps r.n a ht ha hc.2;refine .plain r.fn _ r.n _ _ _ [] [] false .normal (some l) (some T.c) ?_ (.cons (.code _) (.cons .beginRound (.cons (.code _) .nil))) .nil (.some l T hl);rw[<-Array.foldl_toList,Array.toList_zip];exact this
 .cases hi
end
section
variable {X:Ctx}{base:Env}{W0:World}{Z:AW}{H:AA}{W:World}
theorem Ya{id:Nat}:∀{k:List Cs}{k':List Item},Et Z k k'->(∀q,Jb id k=some q->∃q',exitTo id k'=some q'/\Et Z q q')/\(Jb id k=none->exitTo id k'=none):=by
 intro k k' h;induction h with
 | nil=>exact⟨fun q e=>by simp[Jb]at e,fun _=>rfl⟩
 | cons h t ih=>
  cases h with
  | inBlock id'=>
   simp only[Jb,exitTo];cases hb:Nat.beq id' id
   .have hne:(id'==id)=false:=by
     cases hq:(id'==id)
     .rfl
     .rw[eq_of_beq hq,AAu]at hb;cases hb
    simp only[hne,AAR];exact ih
   .have:=AAP hb;subst this;simp only[AAO,ACB,ACA];exact⟨fun q e=>by cases e;exact⟨_,rfl,t⟩,fun e=>by cases e⟩
  | code c=>exact ih
  | inLoop c=>exact ih
  | inScope c=>exact ih
  | Ks ops l idx h=>exact ih
  | inRangeFunc l T h=>exact ih
  | endRangeFunc l T h=>exact ih
  | beginRound=>exact ih
theorem VQ{t:Tr Value}{f:Frame}(args:Array Operand)(h:∀x∈args,AF Z (Bs X t x) (f.eval x)):Af Z (args.toList.map (Bs X t)) (args.map f.eval).toList:=by
 rw[ABb];exact Af.map _ _ _ fun x hx=>h x (by simpa using hx)
theorem XA(hok:En X base W0){g gs:AP}{fn:FuncId}{t:Tr Value}{n:Nat}{tm:BE}{ops:Array Oper}{o:Oper}{i:Nat}{idx:AP}{todo:List Cs}{k':List Item}{ds ds':List Deferred}{kd:CallKind}{rd rd':Option Nat}{cs:List Ae}{cs' cs0:List Frame}{c':BU}(hH:AH base W0 Z H W)(hlaid:BX X Z)(ho:ops[i]? = some o)(hds:Ch Z ds ds')(hrd:HZ Z rd rd')(hcs:EJ X Z H gs cs cs')(hnd:(g++gs).Nodup)(hfr:∀ds1 ds1',Ch Z ds1 ds1'->Hi X Z H g ⟨fn,t,n,todo,ds1,false,kd,rd⟩ ⟨fn,tm,.inRegion ops (i::idx)::k',ds1',.run,kd,rd'⟩)(hev:∀x∈o.op.operands,AF Z (Bs X t x) (Frame.eval ⟨fn,tm,.inRegion ops (i::idx)::k',ds',.run,kd,rd'⟩ x))(hw:Region.wanted o (yielded ops tm)=true)(hi:Lr X o ⟨fn,t,n,todo,ds,false,kd,rd⟩ cs H=some c'):
 DW X base W0 cs0 c' (lone ⟨fn,tm,.inRegion ops (i::idx)::k',ds',.run,kd,rd'⟩ (cs'++cs0) W):=by
 have hplain:(∀c,o.op= .defer c->rd'=none)->(match L8 X.P (Bs X t) o H with
  | some (v,H')=>match CL ⟨fn,t,n,todo,ds,false,kd,rd⟩ v with
   | some fr'=>some (⟨fr',cs,H'⟩:BU)
   | none=>none
  | none=>none)=some c'->DW X base W0 cs0 c' (lone ⟨fn,tm,.inRegion ops (i::idx)::k',ds',.run,kd,rd'⟩ (cs'++cs0) W):=by
  intro hnd1 hm;split at hm
  .rename_i v H' hio;split at hm
   .rename_i fr1 hfin;cases hm
    rw[<-JC o (Pc o (Bs X t))]at hio;obtain⟨μ',nx,v',W',r1,r2,r3,r4,r5⟩:=aI hH (Pn hev) hio;exact⟨μ',_,cs',W',.one (jM ho hw hnd1 r1 r2),r3,hlaid.mono r5.le,g,gs,EE ((hfr ds ds' hds).mono (r5.keeps g)) r4 hfin,hcs.mono (r5.keeps gs),hnd⟩
   .cases hm
  .cases hm
 unfold Lr at hi;split at hi
 .rename_i c hc;have hnd1:∀c,o.op= .defer c->rd'=none:=fun c e=>by rw[hc]at e;cases e
  split at hi
  .rename_i b hcal;cases hb:isRec b
   .simp only[hb,AAR]at hi;exact hplain hnd1 hi
   .simp only[hb,AAO]at hi;have hbe:b= .recover:=by cases b<;>first | rfl | cases hb
    have hex:(execOp (Frame.eval ⟨fn,tm,.inRegion ops (i::idx)::k',ds',.run,kd,rd'⟩) o).run X.P W= .ok .recover W:=by
     simp only[execOp,hc,resolve,hcal,hbe];rfl
    unfold sS at hi;simp only at hi;cases hrd with
    | some l T hm=>cases hi
    | none=>
     simp only at hi;have go:∀fr1,CL ⟨fn,t,n,todo,ds,false,kd,none⟩ .nilIface=some fr1->tryRecover ⟨fn,tm,.inRegion ops (i::idx)::k',ds',.run,kd,none⟩ (cs'++cs0)=none->c'=⟨fr1,cs,H⟩->
      DW X base W0 cs0 c' (lone ⟨fn,tm,.inRegion ops (i::idx)::k',ds',.run,kd,none⟩ (cs'++cs0) W):=by
      rintro fr1 hfin htr rfl;exact⟨Z,_,cs',W,.one (da ho hw hnd1 hex rfl htr),hH,hlaid,g,gs,EE (hfr ds ds' hds) .nilIface hfin,hcs,hnd⟩
     cases kd with
     | normal=>
      simp only at hi;split at hi
      .rename_i fr1 hfin;exact go fr1 hfin (by simp[tryRecover]) (by cases hi;rfl)
      .cases hi
     | deferred=>
      simp only at hi;cases hcs with
      | nil=>cases hi
      | cons hf hft=>
       simp only at hi;split at hi
       .rename_i fr1 hfin;refine go fr1 hfin ?_ (by cases hi;rfl);cases hf with
        | plain _ _ _ _ _ _ _ _ r _ _ _ _ _ _ _=>cases r<;>simp[tryRecover,Tx]
        | Ka=>simp[tryRecover]
       .cases hi
     | _=>cases hi
  .rename_i f hcal;have hopn:o.op.operands=#[f]++c.args:=by rw[hc];simp only[Op.operands,Call.operands,hcal]
   have hargs:=VQ (f:=⟨fn,tm,.inRegion ops (i::idx)::k',ds',.run,kd,rd'⟩) c.args fun x hx=>hev x (by rw[hopn];simp[hx])
   have hf:=hev f (by rw[hopn];simp);unfold NJ at hi;split at hi
   .rename_i g1 first captured hfe;simp only at hfe;rw[hfe]at hf;obtain⟨fn',xs',ys',hfe',hfn,hx1,hy1⟩:=AF.Cd.1 hf;cases hfn
    have hex:∀w,(execOp (Frame.eval ⟨fn,tm,.inRegion ops (i::idx)::k',ds',.run,kd,rd'⟩) o).run X.P w=(callFunc g1 (xs'++c.args.map (Frame.eval ⟨fn,tm,.inRegion ops (i::idx)::k',ds',.run,kd,rd'⟩)++ys')).run X.P w:=by
     intro w;simp only[execOp,hc,resolve,hcal,hfe',Deferred.ofValue,Sem.run_bind,Sem.run_pure,Result.andThen_ok,invoke]
    refine QD hok (args':=xs'++c.args.map (Frame.eval ⟨fn,tm,.inRegion ops (i::idx)::k',ds',.run,kd,rd'⟩)++ys') hH hlaid (hfr ds ds' hds) hcs hnd ?_ (fun nn cc he=> .one (ua ho hw hnd1 ?_)) (fun v hv=> .one (jM ho hw hnd1 ?_ (.inl rfl))) hi
    .simp only[ABW];exact(hx1.append hargs).append hy1
    .rw[hex];exact Jj he _ W
    .rw[hex];exact hv
   .rename_i l first captured hfe;simp only at hfe;rw[hfe]at hf;obtain⟨fn',xs',ys',hfe',hfn,hx1,hy1⟩:=AF.Cd.1 hf;cases hfn with
    | yield _ T hT=>
     refine RQ (args':=xs'++c.args.map (Frame.eval ⟨fn,tm,.inRegion ops (i::idx)::k',ds',.run,kd,rd'⟩)) hH hlaid (hfr ds ds' hds) hcs hnd ?_ hT (fun f2 t2 a2 b2 hy=> .one (ou ho hw hnd1 ?_)) hi
     .simp only[ABW];exact hx1.append hargs
     .simp only[execOp,hc,resolve,hcal,hfe',Deferred.ofValue,Sem.run_bind,Sem.run_pure,Result.andThen_ok,invoke];exact hy
   .cases hi
  .cases hi
 .rename_i c hc;split at hi
  .rename_i f hrn hcal;simp only at hrn;subst hrn;cases hrd
   have hopn:o.op.operands=#[f]++c.args:=by rw[hc];simp only[Op.operands,Call.operands,hcal]
   split at hi
   .rename_i fn1 first captured hfe;split at hi
    .rename_i fr1 hfin;cases hi
     have hargs:=VQ (f:=⟨fn,tm,.inRegion ops (i::idx)::k',ds',.run,kd,none⟩) c.args fun x hx=>hev x (by rw[hopn];simp[hx])
     have hf:=hev f (by rw[hopn];simp);simp only at hfe;rw[hfe]at hf;obtain⟨fn',xs',ys',hfe',hfn,hx1,hy1⟩:=AF.Cd.1 hf;refine⟨Z,_,cs',W,.one (nC (d:={ target:= .fn fn' ys',args:=xs'++c.args.map (Frame.eval ⟨fn,tm,.inRegion ops (i::idx)::k',ds',.run,kd,none⟩) }) ho hw ?_),hH,hlaid,g,gs,?_,hcs,hnd⟩
     .simp only[execOp,hc,resolve,hcal,hfe',Deferred.ofValue,Sem.run_bind,Sem.run_pure,Result.andThen_ok]
     .refine EE (hfr _ _ (.cons ⟨.fn fn1 fn' captured ys' hfn hy1,?_⟩ hds)) (AF.undef Z) hfin;simp only[ABW];exact hx1.append hargs
    .cases hi
   .cases hi
  .cases hi
 .rename_i hnc hnd1;exact hplain (fun c e=>absurd e (hnd1 c)) hi
theorem Ou{gs:AP}{c':BU}{cs:List Ae}{cs' cs0:List Frame}{kd:CallKind}{v v':Value}{m:Machine}(hH:AH base W0 Z H W)(hlaid:BX X Z)(hcs:EJ X Z H gs cs cs')(hnd:gs.Nodup)(hv:AF Z v v')(hn:∀c rest,cs'=c::rest->kd= .normal->Steps X.P m (lone (c.finish v') (rest++cs0) W))(hdf:∀c rest,cs'=c::rest->kd= .deferred->c.mode= .returning->Steps X.P m (lone c (rest++cs0) W))(hi:Ir kd v cs H=some c'):
 DW X base W0 cs0 c' m:=by
 unfold Ir at hi;split at hi
 .cases hi
 .rename_i c rest;cases hcs with
  | @cons g gs c c1' rest rest' h1 h2=>
   split at hi
   .split at hi
    .rename_i c1 hfin;cases hi
     exact⟨Z,_,_,W,hn _ _ rfl rfl,hH,hlaid,g,gs,EE h1 hv hfin,h2,hnd⟩
    .cases hi
   .cases h1 with
    | plain fn t n tm todo todo' ds ds' r kd2 rd rd' ht hi2 hd hr=>
     cases r
     .simp at hi
     .simp only[AAO,AAN]at hi;subst hi;exact⟨Z,_,_,W,hdf _ _ rfl rfl rfl,hH,hlaid,[],gs,.plain fn t n tm todo todo' ds ds' true kd2 rd rd' ht hi2 hd hr,h2,hnd⟩
    | Ka fn t n tm ops x o rest idx D G k k' ds ds' kd rd rd' ho hD hkk hd hr=>simp at hi
   .cases hi
def lF(tm:BE):ResultVar->Sem Value
 | .tmp t=>pure (tm.getD t Go.undef)
 | .cell a t=>do loadVar t (←asAddr (tm.getD a Go.undef))
theorem Yg(hH:AH base W0 Z H W){t:Tr Value}{n:Nat}{tm:BE}(ht:Gt Z t n tm):∀(rs:List ResultVar)(vs:AL),OC X t H rs=some vs->
 ∃vs',(rs.mapM (lF tm)).run X.P W= .ok vs' W/\Af Z vs vs':=by
 intro rs;induction rs with
 | nil=>intro vs h;simp[OC]at h;subst h;exact⟨[],by simp,.nil⟩
 | cons r rs ih=>
  intro vs h;simp only[OC]at h;split at h
  .rename_i v l hv hl;cases h
   obtain⟨l',r1,r2⟩:=ih l hl;have key:∃v',(lF tm r).run X.P W= .ok v' W/\AF Z v v':=by
    cases r with
    | tmp i=>
     simp only[valOf,AAN]at hv;subst hv;exact⟨_,rfl,ht.2 i⟩
    | cell a ty=>
     simp only[valOf]at hv;have ha:=ht.2 a;generalize look t a=p at ha hv;have hres:lF tm (.cell a ty)=(do loadVar ty (←asAddr (tm.getD a Go.undef))):=rfl;rw[hres];generalize tm.getD a Go.undef=q at ha;obtain⟨v',q1,q2⟩:=Pr (P:=X.P) hH ha hv;refine⟨v',?_,q2⟩;cases ha with
     | ptr b o T hm=>simpa [Instr.loadAt,Instr.sureAddr,asAddr] using q1
     | _=>simp[NB,Bo]at hv
   obtain⟨v',k1,k2⟩:=key;exact⟨v'::l',by simp only[ACW,Sem.run_bind,k1,Result.andThen_ok,r1,Sem.run_pure],.cons k2 r2⟩
  .cases h
theorem OL(hH:AH base W0 Z H W){f:FuncId}{t:Tr Value}{n:Nat}{tm:BE}(ht:Gt Z t n tm){v:Value}(h:KU X f t H=some v):
 ∃fn v',X.P.funcs[f]? = some fn/\(results fn tm).run X.P W= .ok v' W/\AF Z v v':=by
 unfold KU at h;split at h
 .rename_i fn hfn;refine⟨fn,?_⟩;have key:∀vs,OC X t H fn.results.toList=some vs->∃vs',(results fn tm).run X.P W= .ok (if hx:vs'.toArray.size=1 then vs'.toArray[0]else .tuple vs'.toArray) W/\Af Z vs vs':=by
   intro vs hvs;obtain⟨vs',r1,r2⟩:=Yg hH ht _ _ hvs;refine⟨vs',?_,r2⟩;unfold results;have hm:(fn.results.mapM (lF tm)).run X.P W= .ok vs'.toArray W:=by
    rw[Array.mapM_eq_mapM_toList];simp only[Sem.run_map,r1,Result.andThen_ok]
   have he:results fn tm=(do let vs ←fn.results.mapM (lF tm);pure (if h:vs.size=1 then vs[0]else .tuple vs)):=by
    unfold results
    congr 1
   unfold results at he;rw[he];simp only[Sem.run_bind,hm,Result.andThen_ok,Sem.run_pure]
  split at h
  .rename_i v0 hvs;cases h
   obtain⟨vs',r1,r2⟩:=key _ hvs;cases r2 with
   | cons h1 h2=>
    cases h2
    exact⟨_,hfn,r1,by simpa using h1⟩
  .rename_i l hne hvs;cases h
   obtain⟨vs',r1,r2⟩:=key _ hvs;have hlen:=r2.length;refine⟨_,hfn,r1,?_⟩;have hne1:¬vs'.toArray.size=1:=by
    intro e;rw[ACb,<-hlen]at e;obtain⟨a,ha⟩:=List.length_eq_one_iff.1 e;exact hne a ha
   rw[dif_neg hne1];exact AF.CM.2 ⟨_,rfl,by simpa using r2⟩
  .cases h
 .cases h
end
section
variable {X:Ctx}{base:Env}{W0:World}{Z:AW}{H:AA}{W:World}
theorem RZ(hH:AH base W0 Z H W){l:Nat}{T:BQ}{q:gB}(hget:H.get l=some (.loop q))(hT:Z l=some T):
 ∃r:Loop,W.heap[T.c]? = some (.loop r)/\r.state=q.state/\r.pending=q.pending/\∀st pe,AH base W0 Z (H.put l (.loop { q with state:=st,pending:=pe })) { W with heap:=W.heap.setIfInBounds T.c (.loop { r with state:=st,pending:=pe }) }/\
  Ah Z H Z (H.put l (.loop { q with state:=st,pending:=pe })):=by
 obtain⟨o',ho',hor⟩:=hH.obj l _ hget T hT;cases hor with
 | loop _ a R ht hd=>
  refine⟨_,ho',rfl,rfl,fun st pe=>?_⟩;exact hH.setObj (o1:= .loop { q with state:=st,pending:=pe }) hget rfl hT (.loop T { q with state:=st,pending:=pe } a R ht hd)
theorem Lw{gs:AP}{fn:FuncId}{t:Tr Value}{n:Nat}{tm:BE}{todo:List Cs}{todo':List Item}{ds ds':List Deferred}{kd:CallKind}{rd rd':Option Nat}{cs:List Ae}{cs' cs0:List Frame}{c':BU}{j:Option Code}(hH:AH base W0 Z H W)(hlaid:BX X Z)(ht:Gt Z t n tm)(hi:Et Z todo todo')(hd:Ch Z ds ds')(hrd:HZ Z rd rd')(hcs:EJ X Z H gs cs cs')(hnd:gs.Nodup)(hj:(todo'=[]/\j=none)\/(∃k,todo'= .code .ret::k/\j=some .ret)\/∃id k,todo'= .code (.exit id)::k/\exitTo id k=none/\j=some (.exit id))(h:Ro j ⟨fn,t,n,todo,ds,false,kd,rd⟩ cs H=some c'):DW X base W0 cs0 c' (lone ⟨fn,tm,todo',ds',.run,kd,rd'⟩ (cs'++cs0) W):=by
 unfold Ro at h;simp only at h;cases hrd with
 | none=>
  simp only at h;have fin:∀(hh:todo'=[]\/∃k,todo'= .code .ret::k),c'=⟨⟨fn,t,n,todo,ds,true,kd,none⟩,cs,H⟩->DW X base W0 cs0 c' (lone ⟨fn,tm,todo',ds',.run,kd,none⟩ (cs'++cs0) W):=by
   rintro hh rfl;exact⟨Z,_,cs',W,.one (mE todo' hh),hH,hlaid,[],gs,.plain fn t n tm todo todo' ds ds' true kd none none ht hi hd .none,hcs,hnd⟩
  rcases hj with⟨h1,rfl⟩ | ⟨k,h1,rfl⟩ | ⟨id,k,h1,h2,rfl⟩
  .simp only[AAN]at h;exact fin (.inl h1) h.symm
  .simp only[AAN]at h;exact fin (.inr ⟨k,h1⟩) h.symm
  .simp at h
 | some l T hT=>
  simp only at h;split at h
  .rename_i q hget;obtain⟨r,hr,hst,hpe,hput⟩:=RZ hH hget hT;have main:∀st,(st=if j.isNone then LoopState.ready else .done)->Ir kd (.bool j.isNone) cs (H.put l (.loop { q with state:=st,pending:=j }))=some c'->
    DW X base W0 cs0 c' (lone ⟨fn,tm,todo',ds',.run,kd,some T.c⟩ (cs'++cs0) W):=by
    intro st hst' h;obtain⟨p1,p2⟩:=hput st j;refine Ou p1 hlaid (hcs.mono (p2.keeps gs)) hnd (.bool j.isNone) (fun c rest hc hk=>?_) (fun c rest hc hk hmode=>?_) h
    .subst hk;subst hc;subst hst'
     exact .one (YB hr hj)
    .subst hk;subst hc;subst hst'
     refine .one ?_;have hre:=M9 (P:=X.P) (j:=j) hr;obtain⟨a1,a2,a3,a4,a5,a6,a7⟩:=c;simp only at hmode;subst hmode;rcases hj with⟨rfl,rfl⟩ | ⟨k,rfl,rfl⟩ | ⟨id,k,rfl,he,rfl⟩
     .exact step_lone_go (by simp[stepG,stepG.exec,hre,doReturn])
     .exact step_lone_go (by simp[stepG,stepG.exec,hre,doReturn])
     .exact step_lone_go (by simp[stepG,stepG.exec,hre,doReturn,he])
   cases j with
   | none=>exact main .ready rfl h
   | some j=>exact main .done rfl h
  .cases h
theorem WE{gs:AP}{fn:FuncId}{t:Tr Value}{n:Nat}{tm:BE}{todo:List Cs}{todo':List Item}{ds ds':List Deferred}{kd:CallKind}{rd rd':Option Nat}{cs:List Ae}{cs' cs0:List Frame}{c':BU}(hH:AH base W0 Z H W)(hlaid:BX X Z)(ht:Gt Z t n tm)(hi:Et Z todo todo')(hd:Ch Z ds ds')(hrd:HZ Z rd rd')(hcs:EJ X Z H gs cs cs')(hnd:gs.Nodup)(h:NL X ⟨fn,t,n,todo,ds,true,kd,rd⟩ cs H=some c'):DW X base W0 cs0 c' (lone ⟨fn,tm,todo',ds',.returning,kd,rd'⟩ (cs'++cs0) W):=by
 unfold NL at h;simp only at h;cases hd with
 | nil=>
  simp only at h;split at h
  .rename_i v hres;obtain⟨f,v',hf,hrun,hv⟩:=OL hH ht hres;refine Ou hH hlaid hcs hnd hv (fun c rest hc hk=>?_) (fun c rest hc hk hmode=>?_) h
   .subst hk;subst hc;exact .one (fb hf hrun)
   .subst hk;subst hc
    exact .one (dR hf hrun (.inl hmode))
  .cases h
 | @cons d d' l l' hdr hdt=>
  obtain⟨yH,args⟩:=d;obtain⟨tgt',args'⟩:=d';obtain⟨htg,hargs⟩:=hdr;simp only at h htg hargs;split at h
  .rename_i b;cases htg with
   | collected _ T hT=>
    split at h
    .rename_i q hget;cases h
     obtain⟨o',ho',hor⟩:=hH.obj b _ hget T hT;cases hor with
     | deferred _ q' hq=>
      obtain⟨g1,g2⟩:=hH.setObj (o1:= .deferred none) (o1':= .deferred none) hget rfl hT (.El T);have hrun:(Instr.takeDeferred T.c).run X.P W= .ok q' { W with heap:=W.heap.setIfInBounds T.c (.deferred none) }:=by
       simp[Instr.takeDeferred,Kd (P:=X.P) ho' (by intro c t f;simp),HF (P:=X.P) ho' (by intro c t f;simp)]
      exact⟨Z,_,cs',_,.one (Ql hrun),g1,hlaid,[],gs,.plain fn t n tm todo todo' _ _ true kd rd rd' ht hi (hq.append hdt) hrd,hcs.mono (g2.keeps gs),hnd⟩
    .cases h
  .rename_i g captured;cases htg with
   | fn _ fn' _ ys' hfn hy=>
    cases hfn
    unfold ID at h;have hat:B3 X g (args.toList++captured.toList) .deferred H=none:=by unfold B3;split<;>rfl
    simp only[hat]at h
    .split at h
     .rename_i nn cc he;cases hle:Nat.ble (args.toList++captured.toList).length nn
      .simp only[hle,AAR]at h;cases h
      .simp only[hle,AAO,AAN]at h;subst h;have hal:Af Z (args.toList++captured.toList) (args'++ys').toList:=by simp only[ABW];exact hargs.append hy
       refine⟨Z,_,⟨fn,tm,todo',l',.returning,kd,rd'⟩::cs',W,.one (YU (d:=⟨.fn (.func g) ys',args'⟩) (f:=g) (args:=args'++ys') (by intro b e;cases e) ?_),hH,hlaid,[],[]++gs,?_,.cons ?_ hcs,hnd⟩
       .simp only[invoke];exact Jj he _ W
       .rw[P4 he];exact .plain g _ nn _ _ _ [] [] false .deferred none none (Nz hal (VC hle)) (.cons (.code cc) .nil) .nil .none
       .exact .plain fn t n tm todo todo' l l' true kd rd rd' ht hi hdt hrd
     .cases h
  .cases h
end
section
variable {X:Ctx}{base:Env}{W0:World}{Z:AW}{H:AA}{W:World}
def dC(listed:Array Bool)(i:Nat):Prop:=listed.getD i true=false
theorem Q9{ops:Array Oper}{listed:Array Bool}{i:Nat}(h:(!listed.getD i true&&((ops[i]?).map (·.after.all fun e=> !Region.binds .any e||listed.getD e.on false)).getD false)=true):
 dC listed i/\∃o,ops[i]? = some o/\∀d∈F7 o,listed.getD d false=true:=by
 simp only[AAQ,ABd]at h;refine⟨h.1,?_⟩;cases ho:ops[i]? with
 | none=>simp[ho]at h
 | some o=>
  refine⟨o,rfl,fun d hd=>?_⟩;have h2:=h.2;simp only[ho,AA8,ABZ]at h2;unfold F7 at hd;obtain⟨e,he,rfl⟩:=List.mem_map.1 hd;obtain⟨he1,he2⟩:=List.mem_filter.1 he;have:=(Array.all_eq_true_iff_forall_mem.1 h2) e (by simpa using he1);rw[he2]at this;simpa using this
theorem ki{ops:Array Oper}:∀(fuel t:Nat)(listed:Array Bool),listed.size=ops.size->Wq ops (Region.linearise.go .any ops fuel t listed [])/\∀i∈Region.linearise.go .any ops fuel t listed [],dC listed i:=by
 intro fuel;induction fuel with
 | zero=>intro t listed _;simp[Region.linearise.go,Wq]
 | succ fuel ih=>
  intro t listed hsz;unfold Region.linearise.go;simp only;split
  .rename_i i hi;have hmem:=AA1 hi;obtain⟨hlt,hready⟩:=List.mem_filter.1 hmem;obtain⟨hu,o,ho,hd⟩:=Q9 hready;rw[linearise_go_acc];have hi0:i < ops.size:=by simpa using hlt
   obtain⟨h1,h2⟩:=ih (t / _) (listed.setIfInBounds i true) (by simpa using hsz);simp only[List.reverse_cons,List.reverse_nil,ABC,ACa];have hni:∀j∈Region.linearise.go .any ops fuel (t / (List.filter (fun i=> !listed.getD i true&&(Option.map (fun x=>x.after.all fun e=> !Region.binds Region.Mode.any e||listed.getD e.on false) ops[i]?).getD false) (List.range ops.size)).length) (listed.setIfInBounds i true) [],j≠i/\dC listed j:=by
    intro j hj;have:=h2 j hj;unfold dC at this ⊢;refine⟨?_,?_⟩
    .rintro rfl;rw[AAs,ABM]at this;simp[hsz,hi0]at this
    .by_cases e:j=i
     .subst e;rw[AAs,ABM]at this;simp[hsz,hi0]at this
     .rwa [getD_set_ne _ (ABB e)]at this
   refine⟨⟨⟨o,ho,fun d hdd hm=>?_⟩,fun hm=>(hni i hm).1 rfl,h1⟩,fun j hj=>?_⟩
   .have hl:=hd d hdd;have hun:dC listed d:=by
     rcases List.mem_cons.1 hm with rfl | hm
     .exact hu
     .exact(hni d hm).2
    unfold dC at hun;have hdlt:d < listed.size:=by
     rcases AAt d listed.size with q | q
     .exact q
     .rw[AAs,ABo q]at hl;simp at hl
    rw[AAs,ABA hdlt]at hl hun;simp at hl hun;rw[hl]at hun;cases hun
   .rcases List.mem_cons.1 hj with rfl | hj
    .exact hu
    .exact(hni j hj).2
  .simp[Wq]
theorem X2{P:Program}{ops:Array Oper}{listed:Array Bool}(hsz:listed.size=ops.size):∀(BP:List PE)(D:AP),Iy ops BP->Ev P ops D BP=true->(∀d∈D,listed.getD d false=true)->(∃i,i < ops.size/\dC listed i)->
 ∃i,i < ops.size/\(!listed.getD i true&&((ops[i]?).map (·.after.all fun e=> !Region.binds .any e||listed.getD e.on false)).getD false)=true:=by
 intro BP;induction BP with
 | nil=>
  intro D _ hok hD ⟨i,hi,hu⟩;unfold Ev at hok;have h1:=Ey.1 (List.all_eq_true.1 hok i (by simpa using hi));have h2:=hD i h1;unfold dC at hu;rw[AAs,ABA (by omega)]at h2 hu;simp at h2 hu;rw[h2]at hu;cases hu
 | cons e BP ih=>
  intro D hwf hok hD hex;have hwf':Iy ops BP:=fun e he=>hwf e (by simp[he])
  cases e with
  | R6 j o=>
   unfold Ev at hok;simp only[AAQ]at hok;exact ih D hwf' hok.2 hD hex
  | op i o=>
   obtain⟨h1,h2,h3,_⟩:=Hy hok;have hio:ops[i]? = some o:=hwf (.op i o) (by simp);have hi:i < ops.size:=(Array.getElem?_eq_some_iff.1 hio).1;cases hl:listed.getD i true with
   | true=>
    refine ih (i::D) hwf' h3 ?_ hex;intro d hd;rcases List.mem_cons.1 hd with rfl | hd
    .rw[AAs,ABA (by omega)]at hl ⊢;simpa using hl
    .exact hD d hd
   | false=>
    refine⟨i,hi,?_⟩;simp only[hl,ACm,AB5,hio,AA8,ABZ];rw[Array.all_eq_true_iff_forall_mem];intro e he;cases hb:Region.binds .any e
    .rfl
    .simp only[ACt,ABw];exact hD _ (h2 _ (List.mem_map.2 ⟨e,List.mem_filter.2 ⟨by simpa using he,hb⟩,rfl⟩))
theorem filter_le{l:AP}{p q:Nat->Bool}(h:∀x,q x=true->p x=true):(l.filter q).length<=(l.filter p).length:=by
 induction l with
 | nil=>simp
 | cons b l ih=>
  simp only[List.filter_cons];cases hq:q b
  .cases hp:p b
   .simpa using ih
   .simp;omega
  .rw[h b hq];simpa using ih
theorem filter_lt{l:AP}{p q:Nat->Bool}(h:∀x,q x=true->p x=true){a:Nat}(ha:a∈l)(hp:p a=true)(hq:q a=false):(l.filter q).length < (l.filter p).length:=by
 induction l with
 | nil=>cases ha
 | cons b l ih=>
  simp only[List.filter_cons];have hle:=filter_le (l:=l) h;rcases List.mem_cons.1 ha with rfl | ha
  .rw[hp,hq];simp;omega
  .have:=ih ha;cases hqb:q b
   .cases hpb:p b
    .simpa using this
    .simp;omega
   .rw[h b hqb];simpa using this
theorem qB{P:Program}{ops:Array Oper}{BP:List PE}(hwf:Iy ops BP)(hok:Ev P ops [] BP=true):∀(fuel t:Nat)(listed:Array Bool),listed.size=ops.size->((List.range ops.size).filter fun i=> !listed.getD i true).length<=fuel->
 ∀i,i < ops.size->dC listed i->i∈Region.linearise.go .any ops fuel t listed []:=by
 intro fuel;induction fuel with
 | zero=>
  intro t listed hsz hlen i hi hu;have:i∈(List.range ops.size).filter fun i=> !listed.getD i true:=List.mem_filter.2 ⟨by simpa using hi,by unfold dC at hu;rw[hu];rfl⟩
  have:=List.length_pos_of_mem this;omega
 | succ fuel ih=>
  intro t listed hsz hlen i hi hu;unfold Region.linearise.go;simp only;obtain⟨r,hr1,hr2⟩:=X2 hsz BP [] hwf hok (fun d hd=>by cases hd) ⟨i,hi,hu⟩;have hne:(List.filter (fun i=> !listed.getD i true&&(Option.map (fun x=>x.after.all fun e=> !Region.binds Region.Mode.any e||listed.getD e.on false) ops[i]?).getD false) (List.range ops.size)).length≠0:=by
   intro e;have:=AAp e;have hm:r∈(List.filter (fun i=> !listed.getD i true&&(Option.map (fun x=>x.after.all fun e=> !Region.binds Region.Mode.any e||listed.getD e.on false) ops[i]?).getD false) (List.range ops.size)):=List.mem_filter.2 ⟨by simpa using hr1,hr2⟩;rw[this]at hm;cases hm
  split
  .rename_i q hq;have hmem:=AA1 hq;obtain⟨hlt,hready⟩:=List.mem_filter.1 hmem;obtain⟨huq,_⟩:=Q9 hready;have hq0:q < ops.size:=by simpa using hlt
   rw[linearise_go_acc];simp only[List.reverse_cons,List.reverse_nil,ABC,ACa]
   by_cases e:i=q
   .subst e;simp
   .refine ABT _ (ih _ _ (by simpa using hsz) ?_ i hi ?_)
    .have hsub:((List.range ops.size).filter fun i=> !(listed.setIfInBounds q true).getD i true).length < ((List.range ops.size).filter fun i=> !listed.getD i true).length:=by
      refine filter_lt (a:=q) (fun x hx=>?_) (by simpa using hq0) (by unfold dC at huq;rw[huq];rfl) ?_
      .by_cases ex:x=q
       .subst ex;rw[AAs,ABM]at hx;simp[hsz,hq0]at hx
       .rw[getD_set_ne _ (ABB ex)]at hx;exact hx
      .rw[AAs,ABM];simp[hsz,hq0]
     omega
    .unfold dC at hu ⊢;rw[getD_set_ne _ (ABB e)];exact hu
  .rename_i hq;rw[AC5]at hq;have:=ACQ t (Nat.pos_of_ne_zero hne);omega
def HR(X:Ctx):Prop:=X.P.follows .mixedOrders=true/\∀ops p,X.BP ops=some p->MI X.P ops=true/\Iy ops p/\Ev X.P ops [] p=true
theorem lZ{P:Program}{ops:Array Oper}{BP:List PE}(hwf:Iy ops BP)(hok:Ev P ops [] BP=true)(t:Nat):Wq ops (Region.schedule true ops t)/\∀i,i < ops.size->i∈Region.schedule true ops t:=by
 have e:Region.schedule true ops t=Region.linearise.go .any ops ops.size t (Array.replicate ops.size false) []:=by
  simp[Region.schedule,Region.linearise]
 rw[e];refine⟨(ki ops.size t _ (by simp)).1,fun i hi=>qB hwf hok ops.size t _ (by simp) ?_ i hi ?_⟩
 .have:=List.length_filter_le (fun i=> !(Array.replicate ops.size false).getD i true) (List.range ops.size);simpa using this
 .unfold dC;rw[AAs,ADA];simp[hi]
theorem uy{P:Program}{fn:FuncId}{tm:BE}{k:List Item}{ds:List Deferred}{kd:CallKind}{rd:Option Nat}{cs:List Frame}{id:Nat}{ops:Array Oper}:
 step P (lone ⟨fn,tm,.code (.region id ops true)::k,ds,.run,kd,rd⟩ cs W)=
  .next (lone ⟨fn,tm,.inRegion ops (Region.schedule (P.follows .mixedOrders) ops (W.tape W.drawn (.order fn id)))::k,ds,.run,kd,rd⟩ cs { W with drawn:=W.drawn+1 }):=
 step_lone_go (by simp[stepG,stepG.exec,choose,Sem.run,Question.forced,Question.cut])
end
section
variable {X:Ctx}{base:Env}{W0:World}{Z:AW}{H:AA}{W:World}
theorem eM(ops:Array Oper):(List.range ops.size).map (ops[·]?)=ops.toList.map some:=by
 apply ACE
 intro i;simp only[AAi,AAx]
 by_cases h:i < ops.size
 .simp[h]
 .simp[h]
theorem Tt{P:Program}{fn:FuncId}{tm:BE}{k:List Item}{ds:List Deferred}{kd:CallKind}{rd:Option Nat}{cs:List Frame}{f:Operand}{ps:Array Tmp}{a b:Code}{l:Nat}{mark:List Deferred}{W' W2:World}{v:Value}(hl:(Instr.enterLoop fn tm ps a b rd).run P W= .ok (l,mark) W')(hr:(do let d ←resolve (Frame.eval ⟨fn,tm,.inRangeFunc l::k,mark++ds,.run,kd,rd⟩) { callee:= .value f,args:=#[.const (.func (.yield l) #[] #[])],argTypes:=#[] } 0;invoke d.target d.args:Sem Next).run P W'= .ok (.value v) W2):
 step P (lone ⟨fn,tm,.code (.rangeFunc f ps a b)::k,ds,.run,kd,rd⟩ cs W)= .next (lone (Frame.finish ⟨fn,tm,.inRangeFunc l::k,mark++ds,.run,kd,rd⟩ v) cs W2):=by
 refine step_lone_go ?_;simp only[stepG,stepG.exec,Sem.runT_eq,hl,GStep.bare_after];simp only[stepG.apply,Sem.runT_eq,ACA,GStep.bare_after];rw[hr];rfl
theorem Lb(hok:En X base W0){gs:AP}{fn:FuncId}{t:Tr Value}{n:Nat}{tm:BE}{k:List Cs}{k':List Item}{ds' ds1 mark:List Deferred}{kd:CallKind}{rd rd':Option Nat}{cs:List Ae}{cs' cs0:List Frame}{c':BU}{f:Operand}{ps:Array Tmp}{a b:Code}{l:Nat}{T:BQ}{μ1:AW}{H1:AA}{W1:World}(hH:AH base W0 μ1 H1 W1)(hlaid:BX X μ1)(ht:Gt μ1 t n tm)(hk:Et μ1 k k')(hd:Ch μ1 ds1 (mark++ds'))(hrd:HZ μ1 rd rd')(hcs:EJ X μ1 H1 gs cs cs')(hnd:gs.Nodup)(hT:μ1 l=some T)(hl:(Instr.enterLoop fn tm ps a b rd').run X.P W= .ok (T.c,mark) W1)(h:NJ X (Bs X t f) [.func (.yield l) ⟨[]⟩ ⟨[]⟩] ⟨fn,t,n,.inRangeFunc l::k,ds1,false,kd,rd⟩ cs H1=some c'):
 DW X base W0 cs0 c' (lone ⟨fn,tm,.code (.rangeFunc f ps a b)::k',ds',.run,kd,rd'⟩ (cs'++cs0) W):=by
 have hfr:Hi X μ1 H1 [] ⟨fn,t,n,.inRangeFunc l::k,ds1,false,kd,rd⟩ ⟨fn,tm,.inRangeFunc T.c::k',mark++ds',.run,kd,rd'⟩:=
  .plain fn t n tm _ _ _ _ false kd rd rd' ht (.cons (.inRangeFunc l T hT) hk) hd hrd
 have hf:=NA (fr:=⟨fn,tm,.inRangeFunc T.c::k',mark++ds',.run,kd,rd'⟩) hlaid ht f;have hyv:Af μ1 [.func (.yield l) ⟨[]⟩ ⟨[]⟩] [.func (.yield T.c) #[] #[]]:= .cons (AF.Cd.2 ⟨_,_,_,rfl,.yield l T hT,.nil,.nil⟩) .nil;have hmap:∀fr:Frame,(#[Operand.const (Value.func (Fn.yield T.c) #[] #[])]:Array Operand).map fr.eval=#[.func (.yield T.c) #[] #[]]:=fun fr=>by simp[Frame.eval]
 unfold NJ at h;split at h
 .rename_i g first captured hfe;rw[hfe]at hf;obtain⟨fn',xs',ys',hfe',hfn,hx1,hy1⟩:=AF.Cd.1 hf;cases hfn
  refine QD hok (args':=xs'++#[.func (.yield T.c) #[] #[]]++ys') hH hlaid hfr hcs hnd ?_ (fun nn cc he=> .one (V5 hl ?_)) (fun v hv=>?_) h
  .simp only[ABW];exact(hx1.append hyv).append hy1
  .simp only[resolve,hfe',Deferred.ofValue,Sem.run_bind,Sem.run_pure,Result.andThen_ok,invoke,hmap];exact Jj he _ _
  .exact .one (Tt hl (by simp only[resolve,hfe',Deferred.ofValue,Sem.run_bind,Sem.run_pure,Result.andThen_ok,invoke,hmap];exact hv))
 .rename_i l2 first captured hfe;rw[hfe]at hf;obtain⟨fn',xs',ys',hfe',hfn,hx1,hy1⟩:=AF.Cd.1 hf;cases hfn with
  | yield _ T2 hT2=>
   refine RQ (args':=xs'++#[.func (.yield T.c) #[] #[]]) hH hlaid hfr hcs hnd ?_ hT2 (fun f2 t2 a2 b2 hy=> .one (UY hl ?_)) h
   .simp only[ABW];exact hx1.append hyv
   .simp only[resolve,hfe',Deferred.ofValue,Sem.run_bind,Sem.run_pure,Result.andThen_ok,invoke,hmap];exact hy
 .cases h
end
section
variable {X:Ctx}{base:Env}{W0:World}{Z:AW}{H:AA}{W:World}
theorem WW{o:Oper}{fr:Ae}{cs:List Ae}{c':BU}(hc:CI X.P o≠2)(h:Lr X o fr cs H=some c'):∃v H' fr1,L8 X.P (Bs X fr.tmps) o H=some (v,H')/\CL fr v=some fr1/\c'=⟨fr1,cs,H'⟩:=by
 have key:(match L8 X.P (Bs X fr.tmps) o H with
  | some (v,H')=>match CL fr v with
   | some fr'=>some (⟨fr',cs,H'⟩:BU)
   | none=>none
  | none=>none)=some c'->∃v H' fr1,L8 X.P (Bs X fr.tmps) o H=some (v,H')/\CL fr v=some fr1/\c'=⟨fr1,cs,H'⟩:=by
  intro hm;split at hm
  .rename_i v H' hio;split at hm
   .rename_i fr1 hfin;cases hm
    exact⟨v,H',fr1,hio,hfin,rfl⟩
   .cases hm
  .cases hm
 unfold Lr at h;split at h
 .rename_i c hop;split at h
  .rename_i b hcal;cases hb:isRec b
   .simp only[hb,AAR]at h;exact key h
   .exfalso;apply hc
    unfold CI;rw[hop];simp only[hcal];cases b<;>first | rfl | cases hb
  .rename_i f hcal;exfalso;apply hc
   unfold CI;rw[hop];simp only[hcal]
  .cases h
 .rename_i c hop;exact absurd hop (TF hc c)
 .exact key h
theorem FW.ahead{ops:Array Oper}{t:Tr Value}{n i d:Nat}{tm:BE}{D:AP}{rest:List PE}{idx:AP}{G G':List (Nat × Nat)}{o:Oper}{v:Value}{H':AA}(ho:ops[i]? = some o)(hd:o.dst=some d)(hdn:d < n)(hcls:CI X.P o≠2)(h:FW X Z H ops t n tm D (.op i o::rest) idx G (FB X H t (.op i o::rest)))(hext:KC H H')(hn:H.next<=H'.next)(hG:∀p∈G,p∈G')(hnew:Ms X Z H' ops (t.put d (some v)) G' (FB X H' (t.put d (some v)) rest) i o)(hgnd:(G'.map Prod.snd).Nodup)(hglt:∀b∈G'.map Prod.snd,b < H'.next):
 FW X Z H' ops (t.put d (some v)) n tm (i::D) rest idx G' (FB X H' (t.put d (some v)) rest):=by
 obtain⟨hiD,hdeps,hok,_⟩:=Hy h.Uu;refine⟨h.stat,fun e he=>h.wf e (by simp[he]),hok,h.J7,?_,?_,h.sz,?_,?_,?_,hgnd,hglt⟩
 .intro j oj hj hnj;obtain⟨h1,h2⟩:=h.Wv j oj hj hnj;exact⟨by simp[h1],h2⟩
 .intro j oj hj hjD q hq;rcases List.mem_cons.1 hjD with rfl | hjD
  .rw[ho]at hj;cases hj;simp[hdeps q hq]
  .simp[h.ev j oj hj hjD q hq]
 .intro u hu;have hui:i∈idx:=by
   rcases Classical.em (i∈idx)with q | q
   .exact q
   .exact absurd (h.Wv i o ho q).1 hiD
  have hne:u≠d:=by rintro rfl;exact hu i o ho (by simp) hui hd
  rw[FM _ _ hne];exact h.tmp u fun j oj hj hjD hji=>hu j oj hj (by simp[hjD]) hji
 .intro j oj hj hjD hji;rcases List.mem_cons.1 hjD with rfl | hjD
  .rw[ho]at hj;cases hj;exact hnew
  .have hap:=h.apart ho hiD hd hj hjD (fun q=>absurd q hcls);have hlook:∀u,u≠d->look (t.put d (some v)) u=look t u:=fun u hu=>FM _ _ hu
   have hr:∀u∈FA ops oj,look (t.put d (some v)) u=look t u:=fun u hu=>hlook u (by rintro rfl;exact hap.1 hu)
   have hdj:∀q,oj.dst=some q->look (t.put d (some v)) q=look t q:=fun q hq=>hlook q (by rintro rfl;exact hap.2 hq)
   have hp:Ms X Z H ops (t.put d (some v)) G (FB X H' (t.put d (some v)) rest) j oj:=by
    refine(h.mB j oj hj hjD hji).congr hr hdj fun q hq _ hc0 hf=>?_
    rcases hf with hf | ⟨H1,hf⟩
    .simp[lead]at hf
    .refine .inr ⟨H',?_⟩;rw[Mv hr,hdj q hq];exact(Qd hc0 hf).2 H' hext
   obtain⟨q,h1,h0,h2⟩:=hp;refine⟨q,h1,h0,?_⟩;rcases h2 with h2 | h2 | ⟨a,b,c,hc,obj,mk,e1,e2,e3,e4,e5⟩
   .exact .inl h2
   .exact .inr (.inl h2)
   .exact .inr (.inr ⟨a,b,c,hG _ hc,obj,mk,e1,e2,ABR e3 hn,e4,hext _ _ e5⟩)
 .intro j oj q hj hjD hq;rcases List.mem_cons.1 hjD with rfl | hjD
  .rw[ho]at hj;cases hj
   rw[hd]at hq;cases hq;exact hdn
  .exact h.ep j oj q hj hjD hq
theorem dq(hok:En X base W0){fn:FuncId}{t:Tr Value}{n:Nat}{tm:BE}{ops:Array Oper}{BP:List PE}{idx D:AP}{G:List (Nat × Nat)}{k:List Cs}{k':List Item}{ds ds':List Deferred}{kd:CallKind}{rd rd':Option Nat}{cs:List Ae}{cs' cs0:List Frame}{gs:AP}{c':BU}(hH:AH base W0 Z H W)(hlaid:BX X Z)(hD:FW X Z H ops t n tm D BP idx G (FB X H t BP))(hk:Et Z k k')(hd:Ch Z ds ds')(hr:HZ Z rd rd')(hcs:EJ X Z H gs cs cs')(hnd:(G.map Prod.snd++gs).Nodup)(h:Eb X ⟨⟨fn,t,n,.E0 ops BP::k,ds,false,kd,rd⟩,cs,H⟩=some c'):
 DW X base W0 cs0 c' (lone ⟨fn,tm,.inRegion ops idx::k',ds',.run,kd,rd'⟩ (cs'++cs0) W):=by
 unfold Eb at h;simp only[AAR]at h;cases BP with
 | nil=>
  simp only[AAN]at h;subst h;have hall:∀j∈idx,j∈D:=by
   intro j hj;have hlt:∀(l:AP),Wq ops l->∀j∈l,j < ops.size:=by
    intro l;induction l with
    | nil=>intro _ j hj;cases hj
    | cons a l ih=>
     intro ht j hj;obtain⟨⟨o,ho,_⟩,_,h3⟩:=ht;rcases List.mem_cons.1 hj with rfl | hj
     .exact(Array.getElem?_eq_some_iff.1 ho).1
     .exact ih h3 j hj
   have hok:=hD.Uu;unfold Ev at hok;exact Ey.1 (List.all_eq_true.1 hok j (by simpa using hlt idx hD.J7 j hj))
  obtain⟨μ1,W1,Ot,G1,q1,q2,q3,q4⟩:=jf (fn:=fn) (k':=k') (ds':=ds') (kd:=kd) (rd':=rd') (cs:=cs'++cs0) (gs:=gs) rfl idx Z W tm G hH hlaid hD hall hnd;refine⟨μ1,_,cs',W1,q1.trans (.one OY),q2,hlaid.mono q4.le,[],gs,.plain fn t n Ot k k' ds ds' false kd rd rd' ⟨q3.sz,fun u=>q3.tmp u fun _ _ _ _ hm=>by cases hm⟩ (hk.mono q4.le) (hd.mono q4.le) (hr.mono q4.le),hcs.mono q4,(List.nodup_append.1 hnd).2.1⟩
 | cons e rest=>
  cases e with
  | R6 j o=>
   simp only at h;have hoj:ops[j]? = some o:=hD.wf (.R6 j o) (by simp);have hokp:=hD.Uu;unfold Ev at hokp;simp only[AAQ]at hokp;have hwf:Iy ops rest:=fun e he=>hD.wf e (by simp[he])
   have fin:(∀d,o.dst=some d->DK ops o t=some true->CI X.P o=0->∃H1,L8 X.P (Bs X t) o H=some (look t d,H1))->c'=⟨⟨fn,t,n,.E0 ops rest::k,ds,false,kd,rd⟩,cs,H⟩->
    DW X base W0 cs0 c' (lone ⟨fn,tm,.inRegion ops idx::k',ds',.run,kd,rd'⟩ (cs'++cs0) W):=by
    rintro hfact rfl;refine⟨Z,_,cs',W,.refl _ _,hH,hlaid,G.map Prod.snd,gs,.drawn fn t n tm ops rest idx D G k k' ds ds' kd rd rd' ⟨hD.stat,hwf,hokp.2,hD.J7,hD.Wv,hD.ev,hD.sz,hD.tmp,fun i oi hi hiD hii=>?_,hD.ep,hD.gO,hD.eY⟩ hk hd hr,hcs,hnd⟩;refine(hD.mB i oi hi hiD hii).congr (fun _ _=>rfl) (fun _ _=>rfl) fun d hdd hw hc0 hf=>?_
    rcases hf with hf | hf
    .simp only[lead,AAw]at hf;rcases hf with rfl | hf
     .rw[hoj]at hi;cases hi
      exact .inr (hfact d hdd hw hc0)
     .exact .inl hf
    .exact .inr hf
   split at h
   .rename_i hw;split at h
    .rename_i d v H1 hdd hio;cases hs:JJ 8 v (look t d)
     .simp[hs]at h
     .simp only[hs,AAO,AAN]at h;refine fin (fun d2 hd2 _ _=>?_) h.symm;rw[hdd]at hd2;cases hd2
      exact⟨H1,by rw[hio,Q3 8 _ _ hs]⟩
    .cases h
   .rename_i hw;simp only[AAN]at h;exact fin (fun d _ hw2 _=>by rw[hw]at hw2;cases hw2) h.symm
   .cases h
  | op i o=>
   simp only at h;have hoi:ops[i]? = some o:=hD.wf (.op i o) (by simp);obtain⟨hiD,hdeps,hokr,hX⟩:=Hy hD.Uu;have hii:i∈idx:=by
    rcases Classical.em (i∈idx)with q | q
    .exact q
    .exact absurd (hD.Wv i o hoi q).1 hiD
   by_cases hcls:CI X.P o=2
   ·
    obtain⟨μ1,W1,Ot,G1,idx1,q1,q2,q3,q4,q5⟩:=pg (fn:=fn) (k':=k') (ds':=ds') (kd:=kd) (rd':=rd') (cs:=cs'++cs0) (gs:=gs) hcls idx Z W tm G hH hlaid hD hii hnd;have hlaid1:=hlaid.mono q4.le;have hcs1:=hcs.mono q4;have hnd1:(G1.map Prod.snd++gs).Nodup:=hnd.sublist (q5.append (AB8 _));have hsus:=q3.suspend hcls hoi;have hfr:∀ds1 ds1',Ch μ1 ds1 ds1'->Hi X μ1 H (G1.map Prod.snd) ⟨fn,t,n,.E0 ops (.op i o::rest)::k,ds1,false,kd,rd⟩ ⟨fn,Ot,.inRegion ops (i::idx1)::k',ds1',.run,kd,rd'⟩:=fun ds1 ds1' hd1=>
     .Ka fn t n Ot ops i o rest idx1 D G1 k k' ds1 ds1' kd rd rd' hoi hsus (hk.mono q4.le) hd1 (hr.mono q4.le)
    have hreads:=q3.reads hoi;have hwant:∀b,DK ops o t=some b->Region.wanted o (yielded ops Ot)=b:=fun b hb=>KL (fun q w u hg hu=>hreads u (Kn hg hu)) hb
    have after:∀{m:Machine},DW X base W0 cs0 c' m->Steps X.P (lone ⟨fn,tm,.inRegion ops idx::k',ds',.run,kd,rd'⟩ (cs'++cs0) W) m->DW X base W0 cs0 c' (lone ⟨fn,tm,.inRegion ops idx::k',ds',.run,kd,rd'⟩ (cs'++cs0) W):=by
     rintro m ⟨a1,a2,a3,a4,a5,a6⟩ hs;exact⟨a1,a2,a3,a4,hs.trans a5,a6⟩
    split at h
    .rename_i hw;refine after (XA hok q2 hlaid1 hoi (hd.mono q4.le) (hr.mono q4.le) hcs1 hnd1 hfr (fun x hx=>Nt hlaid1 x fun u hu=>hreads u (NZ (by rw[<-hu];exact hx))) (hwant true hw) h) q1
    .rename_i hw;split at h
     .rename_i fr1 hfin;cases h
      refine after ⟨μ1,_,cs',W1,.one (P3 hoi (hwant false hw)),q2,hlaid1,G1.map Prod.snd,gs,EE (hfr ds ds' (hd.mono q4.le)) (AF.undef μ1) hfin,hcs1,hnd1⟩ q1
     .cases h
    .cases h
   ·
    obtain⟨d,hdd⟩:=iK hD.stat hoi hcls;have hcl01:CI X.P o=0\/CI X.P o=1:=by
     have:CI X.P o<=2:=by
      unfold CI;split<;>first | omega | (cases (Xw X.P _).isSome<;>decide) | (cases FU X.P _<;>decide) | (split<;>first | omega | (split<;>omega))
     omega
    have hself:∀u∈FA ops o,u≠d:=fun u hu e=>(L4 hD.stat hoi hoi hu (by rw[e];exact hdd)).elim (fun q=>hiD (hdeps i q)) fun q=>hcls q.1
    have hrd:∀v:Value,∀u∈FA ops o,look (t.put d (some v)) u=look t u:=fun v u hu=>FM _ _ (hself u hu)
    have hfinI:∀v fr1,CL ⟨fn,t,n,.E0 ops (.op i o::rest)::k,ds,false,kd,rd⟩ v=some fr1->d < n/\fr1=⟨fn,t.put d (some v),n,.E0 ops rest::k,ds,false,kd,rd⟩:=by
     intro v fr1 hf;unfold CL at hf;rw[LG]at hf;simp only[hdd]at hf;cases hlt:Nat.blt d n
     .simp[hlt]at hf
     .simp only[hlt,AAO,AAN]at hf;exact⟨VC hlt,hf.symm⟩
    split at h
    .rename_i hw;obtain⟨v,H',fr1,hio,hfin,rfl⟩:=WW hcls h;obtain⟨hdn,rfl⟩:=hfinI v fr1 hfin;have hio0:L8 X.P (Bs X t) o H=some (v,H'):=hio;rcases hcl01 with hc | hc
     .obtain⟨rfl,_⟩:=Qd hc hio0;refine⟨Z,_,cs',W,.refl _ _,hH,hlaid,G.map Prod.snd,gs,.drawn fn _ n tm ops rest idx (i::D) G k k' ds ds' kd rd rd' (hD.ahead hoi hdd hdn hcls (fun _ _ hb=>hb) (AAT _) (fun _ hp=>hp) ⟨d,hdd,hcls,.inr (.inl ⟨by rw[G5 (hrd v)];exact hw,hc,.inr ⟨H',?_⟩⟩)⟩ hD.gO hD.eY) hk hd hr,hcs,hnd⟩;rw[Mv (hrd v),E7];exact hio0
     .obtain⟨obj,mk,rfl,rfl,h3,h4,_⟩:=bC hc hio0;have hfresh:=hH.fresh H.next (AAT _);have hnG:H.next∉G.map Prod.snd:=fun hm=>ABY _ (hD.eY _ hm)
      have hngs:H.next∉gs:=fun hm=>ABY _ (hcs.lt _ hm)
      have hext:=KC.alloc hH obj;have hkeep:Fq gs Z H Z (H.alloc obj):=⟨AW.le_refl _,by simp[AA.alloc],fun b _ hb hm=>⟨hm,by rw[AA.AN,AAW (by omega)]⟩⟩;refine⟨Z,_,cs',W,.refl _ _,hH.ghost obj,hlaid,((i,H.next)::G).map Prod.snd,gs,.drawn fn _ n tm ops rest idx (i::D) ((i,H.next)::G) k k' ds ds' kd rd rd' (hD.ahead hoi hdd hdn hcls hext (by simp[AA.alloc]) (fun _ hp=>by simp[hp])
       ⟨d,hdd,hcls,.inr (.inr ⟨by rw[G5 (hrd _)];exact hw,hc,H.next,by simp,obj,mk,E7 _ _ _,fun H2=>by rw[Mv (hrd _)];exact h3 H2,by simp[AA.alloc],hfresh.2,by rw[AA.AN,AAZ rfl]⟩)⟩
       (by simp only[AAn,ABS];exact⟨hnG,hD.gO⟩) ?_) hk hd hr,hcs.mono hkeep,?_⟩
      .intro b hb;simp only[AAn,AAw]at hb;rcases hb with rfl | hb
       .simp[AA.alloc]
       .have:=hD.eY b hb;simp only[AA.alloc];omega
      .simp only[AAn,ABc,ABS];exact⟨fun hm=>(List.mem_append.1 hm).elim hnG hngs,hnd⟩
    .rename_i hw;split at h
     .rename_i fr1 hfin;cases h
      obtain⟨hdn,rfl⟩:=hfinI _ fr1 hfin;exact⟨Z,_,cs',W,.refl _ _,hH,hlaid,G.map Prod.snd,gs,.drawn fn _ n tm ops rest idx (i::D) G k k' ds ds' kd rd rd' (hD.ahead hoi hdd hdn hcls (fun _ _ hb=>hb) (AAT _) (fun _ hp=>hp) ⟨d,hdd,hcls,.inl ⟨by rw[G5 (hrd _)];exact hw,E7 _ _ _⟩⟩ hD.gO hD.eY) hk hd hr,hcs,hnd⟩
     .cases h
    .cases h
end
end Go.AB
