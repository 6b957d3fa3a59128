/-
  Part of the proof: the machine that runs a program by fixed orders, and that each of its runs is a run of the model; or a run of it in parts. No conditions.
-/
import GoSem.Step
import Derived.Calls
import Derived.Laws.Sem
import Derived.Laws.World
import Derived.KernelRfl
import Derived.Laws.Cells
import Derived.Laws.IdiomCopy
import Derived.Laws.BytesString
import Derived.Lib.FrozenHead
import Derived.Lib.UnsafeStr
import Derived.Laws.Tables
import Derived.Laws.Append
import Derived.Orders
noncomputable section
namespace Go.AI
abbrev AE:Nat:=5
abbrev Iy:Nat:=7
abbrev Bc:Nat:=8
abbrev AO:Nat:=9
abbrev Ay:Nat:=12
abbrev AD:Nat:=15
abbrev AX:Nat:=16
abbrev BE:Nat:=17
abbrev Au:Nat:=18
abbrev An:Nat:=19
abbrev BO:Nat:=21
abbrev Aj:Nat:=22
abbrev Bo:Nat:=23
abbrev CH:Nat:=24
abbrev Ag:Nat:=25
abbrev Ax:Nat:=26
abbrev BB:Nat:=28
abbrev DS:Nat:=30
abbrev Hl:Nat:=32
abbrev BQ:Nat:=33
abbrev Aa:Nat:=34
abbrev Bg:Nat:=35
abbrev Ac:Nat:=38
abbrev J1:Nat:=41
abbrev AY:Nat:=48
abbrev B8:Nat:=49
abbrev Ce:Nat:=50
abbrev BA:Nat:=51
abbrev Ao:Nat:=52
abbrev Ba:Nat:=54
abbrev By:Nat:=55
abbrev Cl:Nat:=57
abbrev BP:Nat:=59
abbrev B3:Nat:=60
abbrev B5:Nat:=63
abbrev B9:Nat:=64
abbrev IA:Nat:=67
abbrev BZ:Nat:=69
abbrev BS:Nat:=71
abbrev Ii:Nat:=72
abbrev CF:Nat:=84
abbrev Bm:Nat:=87
abbrev Fi:Nat:=95
inductive Tr (α:Type) where
 | leaf:Tr α
 | node (l:Tr α) (v:Option α) (r:Tr α):Tr α
inductive F4 where
 | e:F4
 | z (p:F4):F4
 | o (p:F4):F4
 deriving DecidableEq
def F4.fC (f:Nat):Nat->F4:=
 Nat.rec (motive:=fun _=>Nat->F4) (fun _=> .e)
  (fun _ ih n=>Nat.casesOn (motive:=fun _=>F4) n .e fun n=>
   bif Nat.beq (Nat.mod n 2) 1 then .o (ih (Nat.div n 2))else .z (ih (Nat.div n 2))) f
def F4.of (n:Nat):F4:=F4.fC n n
theorem F4.Mv (f:Nat):F4.fC f 0= .e:=by cases f<;>rfl
theorem F4.IS (f n:Nat):F4.fC (f+1) (n+1)=bif Nat.beq (n % 2) 1 then .o (F4.fC f (n / 2))else .z (F4.fC f (n / 2)):=rfl
theorem F4.aO:∀(f g n m:Nat),n<=f->m<=g->F4.fC f n=F4.fC g m->n=m:=by
 intro f;induction f with
 | zero=>
  intro g n m hn hm h;obtain rfl:n=0:=by omega
  cases m with
  | zero=>rfl
  | succ m=>
   cases g with
   | zero=>omega
   | succ g=>
    rw[F4.Mv,F4.IS]at h;cases hb:Nat.beq (m % 2) 1<;>rw[hb]at h<;>cases h
 | succ f ih=>
  intro g n m hn hm h;cases n with
  | zero=>
   cases m with
   | zero=>rfl
   | succ m=>
    cases g with
    | zero=>omega
    | succ g=>
     rw[F4.Mv,F4.IS]at h;cases hb:Nat.beq (m % 2) 1<;>rw[hb]at h<;>cases h
  | succ n=>
   cases m with
   | zero=>
    rw[F4.Mv,F4.IS]at h;cases hb:Nat.beq (n % 2) 1<;>rw[hb]at h<;>cases h
   | succ m=>
    cases g with
    | zero=>omega
    | succ g=>
     rw[F4.IS,F4.IS]at h;cases hb:Nat.beq (n % 2) 1<;>cases hc:Nat.beq (m % 2) 1<;>rw[hb,hc]at h
     ·have h1:n % 2≠1:=by intro e;rw[e]at hb;cases hb
      have h2:m % 2≠1:=by intro e;rw[e]at hc;cases hc
      have:=ih g (n / 2) (m / 2) (by omega) (by omega) (by injection h);omega
     ·cases h
     ·cases h
     ·have h1:n % 2=1:=Nat.eq_of_beq_eq_true hb;have h2:m % 2=1:=Nat.eq_of_beq_eq_true hc;have:=ih g (n / 2) (m / 2) (by omega) (by omega) (by injection h);omega
theorem F4.el {n m:Nat} (h:F4.of n=F4.of m):n=m:=F4.aO n m n m (Nat.le_refl _) (Nat.le_refl _) h
namespace Tr
variable {α:Type}
def JZ (t:Tr α):F4->Option α:=
 Tr.rec (motive:=fun _=>F4->Option α) (fun _=>none)
  (fun _ v _ ihl ihr p=>F4.casesOn (motive:=fun _=>Option α) p v (fun p=>ihl p) (fun p=>ihr p)) t
def E9 (x:Option α) (p:F4):Tr α->Tr α:=
 F4.rec (motive:=fun _=>Tr α->Tr α)
  (fun t=>Tr.casesOn (motive:=fun _=>Tr α) t (.node .leaf x .leaf) (fun l _ r=> .node l x r))
  (fun _ ih t=>Tr.casesOn (motive:=fun _=>Tr α) t (.node (ih .leaf) none .leaf) (fun l v r=> .node (ih l) v r))
  (fun _ ih t=>Tr.casesOn (motive:=fun _=>Tr α) t (.node .leaf none (ih .leaf)) (fun l v r=> .node l v (ih r)))
  p
theorem WD (x:Option α):∀(p q:F4) (t:Tr α),(t.E9 x p).JZ q=if q=p then x else t.JZ q:=by
 intro p;induction p with
 | e=>intro q t;cases t<;>cases q<;>simp[E9,JZ]
 | z p ih=>
  intro q t;cases t with
  | leaf=>cases q with
   | e=>simp[E9,JZ]
   | z q=>have:=ih q .leaf;simpa [E9,JZ] using this
   | o q=>simp[E9,JZ]
  | node l v r=>cases q with
   | e=>simp[E9,JZ]
   | z q=>have:=ih q l;simpa [E9,JZ] using this
   | o q=>simp[E9,JZ]
 | o p ih=>
  intro q t;cases t with
  | leaf=>cases q with
   | e=>simp[E9,JZ]
   | o q=>have:=ih q .leaf;simpa [E9,JZ] using this
   | z q=>simp[E9,JZ]
  | node l v r=>cases q with
   | e=>simp[E9,JZ]
   | o q=>have:=ih q r;simpa [E9,JZ] using this
   | z q=>simp[E9,JZ]
def get (t:Tr α) (n:Nat):Option α:=t.JZ (F4.of n)
def put (t:Tr α) (n:Nat) (x:Option α):Tr α:=t.E9 x (F4.of n)
theorem M0 (n:Nat):(Tr.leaf:Tr α).get n=none:=rfl
theorem AQ (t:Tr α) (n m:Nat) (x:Option α):(t.put n x).get m=if m=n then x else t.get m:=by
 unfold get put;rw[WD]
 by_cases h:m=n
 ·subst h;simp
 ·rw[if_neg (fun e=>h (F4.el e)),if_neg h]
theorem QH (t:Tr α) (n:Nat) (x:Option α):(t.put n x).get n=x:=by rw[AQ,if_pos rfl]
theorem TP (t:Tr α) {n m:Nat} (x:Option α) (h:m≠n):(t.put n x).get m=t.get m:=by rw[AQ,if_neg h]
end Tr
abbrev p_ (n:Nat):Value:= .pointer (some ⟨n,0,none⟩)
abbrev c_ (l:List Int):List Int:=[l.getD 0 0,l.getD 1 0,l.getD 2 0,l.getD 3 0,l.getD 4 0,l.getD 5 0,l.getD 6 0]
abbrev e_:ByteArray:={ data:=#[] }
abbrev w_ (n:Nat):Int:=IntKind.wrap .i64 (Int.ofNat (n+1) - 1)
structure AB where
 cfg:List Int
 AN:Int
 base:List (ByteArray × ByteArray)
 now:List (ByteArray × ByteArray)
 cost:Int
 AJ:List (Bool × ByteArray × ByteArray)
 state:Int
 AG:Bool
inductive Pk where
 | table (l:List (ByteArray × ByteArray))
 | model (m:AB)
 | maps (n:Nat) (l:List (ByteArray × ByteArray))
 | Co (L:List (List (ByteArray × ByteArray)))
inductive SK where
 | int (k:IntKind)
 | bool
 | str
 | tok
abbrev EK:=List SK
@[reducible] def SK.C:SK->Type
 | .int _=>Int
 | .bool=>Bool
 | .str=>ByteArray
 | .tok=>Value
def SK.enc:(s:SK)->s.C->Value
 | .int k,n=> .int k n
 | .bool,b=> .bool b
 | .str,s=> .string s
 | .tok,v=>v
def SK.dec:(s:SK)->Value->Option s.C
 | .int k,.int k' n=>bif decide (k=k')then some n else none
 | .bool,.bool b=>some b
 | .str,.string s=>some s
 | .tok,v=>some v
 | _,_=>none
theorem SK.Hq:∀(s:SK) (v:Value) (x:s.C),s.dec v=some x->s.enc x=v:=by
 intro s v x h;cases s with
 | int k=>
  cases v<;>simp only[SK.dec,reduceCtorEq]at h
  rename_i k' n
  by_cases e:k=k'
  ·subst e;simp only[decide_true,cond_true]at h;cases h;rfl
  ·simp[e]at h
 | bool=>cases v<;>simp only[SK.dec,reduceCtorEq]at h;cases h;rfl
 | str=>cases v<;>simp only[SK.dec,reduceCtorEq]at h;cases h;rfl
 | tok=>simp only[SK.dec]at h;cases h;rfl
@[reducible] def EK.C:EK->Type
 | []=>Unit
 | [s]=>s.C
 | s::t::r=>s.C × EK.C (t::r)
def EK.enc:(k:EK)->EK.C k->List Value
 | [],_=>[]
 | [s],x=>[s.enc x]
 | s::t::r,x=>s.enc x.1::EK.enc (t::r) x.2
def EK.dec:(k:EK)->List Value->Option (EK.C k)
 | []=>fun l=>match l with
  | []=>some ()
  | _::_=>none
 | [s]=>fun l=>match l with
  | v::r=>match r with
   | []=>s.dec v
   | _::_=>none
  | []=>none
 | s::t::r=>fun l=>match l with
  | v::l=>match s.dec v,EK.dec (t::r) l with
   | some x,some y=>some (x,y)
   | _,_=>none
  | []=>none
theorem EK.CW:∀(k:EK) (x:EK.C k),(EK.enc k x).length=k.length
 | [],_=>rfl
 | [_],_=>rfl
 | _::t::r,x=>by simp only[EK.enc,List.length_cons,EK.CW (t::r) x.2]
theorem EK.Hq:∀(k:EK) (l:List Value) (x:EK.C k),EK.dec k l=some x->EK.enc k x=l
 | []=>fun l x h=>by
  cases l with
  | nil=>rfl
  | cons v l=>cases h
 | [s]=>fun l x h=>by
  cases l with
  | nil=>cases h
  | cons v l=>cases l with
   | nil=>simp only[EK.dec]at h;simp only[EK.enc];rw[SK.Hq s v x h]
   | cons w l=>cases h
 | s::t::r=>fun l x h=>by
  cases l with
  | nil=>cases h
  | cons v l=>
   simp only[EK.dec]at h;split at h
   ·rename_i a b ha hb;cases h
    simp only[EK.enc];rw[SK.Hq s v a ha,EK.Hq (t::r) l b hb]
   ·cases h
def A2 (k:EK) (l:List (EK.C k)):List Value:=l.flatMap (EK.enc k)
theorem XE (k:EK):A2 k []=[]:=rfl
theorem Cw (k:EK) (x:EK.C k) (l:List (EK.C k)):A2 k (x::l)=EK.enc k x++A2 k l:=rfl
theorem DL (k:EK) (l m:List (EK.C k)):A2 k (l++m)=A2 k l++A2 k m:=by simp[A2]
theorem CM (k:EK) (l:List (EK.C k)):(A2 k l).length=l.length * k.length:=by
 induction l with
 | nil=>simp[A2]
 | cons x l ih=>rw[Cw,List.length_append,EK.CW,ih,List.length_cons,Nat.succ_mul];omega
theorem D6 (k:EK):∀(i:Nat) (l:List (EK.C k)),(A2 k l).drop (i * k.length)=A2 k (l.drop i)
 | 0,l=>by simp
 | i+1,[]=>by simp[A2]
 | i+1,x::l=>by
  rw[Cw,List.drop_succ_cons,<-D6 k i l,List.drop_append,EK.CW];have h1:List.drop ((i+1) * k.length) (EK.enc k x)=[]:=List.drop_eq_nil_of_le (by rw[EK.CW,Nat.succ_mul];omega);have h2:(i+1) * k.length - k.length=i * k.length:=by rw[Nat.succ_mul];omega
  rw[h1,h2,List.nil_append]
theorem Ee (k:EK):∀(i:Nat) (l:List (EK.C k)),(A2 k l).take (i * k.length)=A2 k (l.take i)
 | 0,l=>by simp[A2]
 | i+1,[]=>by simp[A2]
 | i+1,x::l=>by
  rw[Cw,List.take_succ_cons,Cw,<-Ee k i l,List.take_append,EK.CW];have h1:List.take ((i+1) * k.length) (EK.enc k x)=EK.enc k x:=List.take_of_length_le (by rw[EK.CW,Nat.succ_mul];omega);have h2:(i+1) * k.length - k.length=i * k.length:=by rw[Nat.succ_mul];omega
  rw[h1,h2]
inductive Ab where
 | WN (t e:TypeId) (l:List UInt8)
 | pack (s:Pk)
 | mem (k:EK) (L:List (Option (List (EK.C k))))
structure B7 where
 c:Nat
 d:Nat
 r:Nat
 e:Nat
abbrev Ai:=Nat->Option B7
def Ai.le (μ ν:Ai):Prop:=∀b x,μ b=some x->ν b=some x
theorem Ai.le_refl (μ:Ai):μ.le μ:=fun _ _ h=>h
theorem Ai.le_trans {μ ν ξ:Ai} (h:μ.le ν) (h':ν.le ξ):μ.le ξ:=fun b x e=>h' b x (h b x e)
def Ai.ext (μ:Ai) (b:Nat) (x:B7):Ai:=fun i=>if i=b then some x else μ i
theorem Ai.DU {μ:Ai} {b:Nat} (x:B7) (h:μ b=none):μ.le (μ.ext b x):=by
 intro i y e;unfold Ai.ext
 by_cases hi:i=b
 ·subst hi;rw[h]at e;cases e
 ·rw[if_neg hi];exact e
theorem Ai.Av (μ:Ai) (b:Nat) (x:B7):μ.ext b x b=some x:=by simp[Ai.ext]
theorem Ai.Bl (μ:Ai) {b i:Nat} (x:B7) (h:i≠b):μ.ext b x i=μ i:=by simp[Ai.ext,h]
def AF:Nat:=18446744073709551616
attribute [irreducible] AF
def Ho (T:B7) (o len cap cap':Nat):Prop:=(cap < AF/\cap'=cap)∨(AF<=cap/\cap - AF<=cap'/\len<=cap'/\o+cap' * T.e<=T.r/\(T.e=1∨cap'<=9223372036854775807))
def Bn:Value:= .chan (some 0)
def S8 (a b:Nat):Nat:=2 ^ a * (2 * b+1)
theorem Ky:∀{a c b d:Nat},S8 a b=S8 c d->a=c/\b=d
 | 0,0,b,d,h=>by simp only[S8,Nat.pow_zero,Nat.one_mul]at h;omega
 | 0,c+1,b,d,h=>by
  have e:2 ^ (c+1) * (2 * d+1)=2 * (2 ^ c * (2 * d+1)):=by rw[Nat.pow_succ,Nat.mul_comm (2 ^ c) 2,Nat.mul_assoc]
  simp only[S8,Nat.pow_zero,Nat.one_mul]at h;rw[e]at h;omega
 | a+1,0,b,d,h=>by
  have e:2 ^ (a+1) * (2 * b+1)=2 * (2 ^ a * (2 * b+1)):=by rw[Nat.pow_succ,Nat.mul_comm (2 ^ a) 2,Nat.mul_assoc]
  simp only[S8,Nat.pow_zero,Nat.one_mul]at h;rw[e]at h;omega
 | a+1,c+1,b,d,h=>by
  have e1:2 ^ (a+1) * (2 * b+1)=2 * S8 a b:=by unfold S8;rw[Nat.pow_succ,Nat.mul_comm (2 ^ a) 2,Nat.mul_assoc]
  have e2:2 ^ (c+1) * (2 * d+1)=2 * S8 c d:=by unfold S8;rw[Nat.pow_succ,Nat.mul_comm (2 ^ c) 2,Nat.mul_assoc]
  have h:2 ^ (a+1) * (2 * b+1)=2 ^ (c+1) * (2 * d+1):=h;rw[e1,e2]at h;obtain⟨h1,h2⟩:=Ky (a:=a) (c:=c) (b:=b) (d:=d) (by omega);exact⟨by omega,h2⟩
theorem UT (a b:Nat):S8 a b≠0:=by
 unfold S8;have:=Nat.mul_pos (Nat.pow_pos (n:=a) (show 0 < 2 by decide)) (show 0 < 2 * b+1 by omega);omega
def C1:List B7->Nat
 | []=>0
 | x::l=>S8 (S8 x.c (S8 x.d (S8 x.r x.e))) (C1 l)
theorem JC:∀{l m:List B7},C1 l=C1 m->l=m
 | [],[],_=>rfl
 | [],_::_,h=>absurd h.symm (UT _ _)
 | _::_,[],h=>absurd h (UT _ _)
 | x::l,y::m,h=>by
  obtain⟨h1,h2⟩:=Ky h;obtain⟨c1,h1⟩:=Ky h1;obtain⟨c2,h1⟩:=Ky h1;obtain⟨c3,c4⟩:=Ky h1;obtain⟨a1,a2,a3,a4⟩:=x;obtain⟨b1,b2,b3,b4⟩:=y;simp only at c1 c2 c3 c4;subst c1 c2 c3 c4;rw[JC h2]
open Classical in
def Jc (e j:Nat):Option B7:=if h:∃l,C1 l=e then(Classical.choose h)[j]? else none
theorem FF (l:List B7) (j:Nat):Jc (C1 l) j=l[j]?:=by
 unfold Jc;have h:∃m,C1 m=C1 l:=⟨l,rfl⟩
 rw[dif_pos h,JC (Classical.choose_spec h)]
inductive Gp (μ:Ai):Fn->Fn->Prop where
 | func (f:FuncId):Gp μ (.func f) (.func f)
 | method (n:String):Gp μ (.method n) (.method n)
 | methodOf (t:TypeId) (n:String):Gp μ (.methodOf t n) (.methodOf t n)
 | via (t:TypeId) (p:Array FieldStep) (f:FuncId) (b:Bool):Gp μ (.via t p f b) (.via t p f b)
 | yield (l:Nat) (T:B7) (h:μ l=some T):Gp μ (.yield l) (.yield T.c)
inductive AM (μ:Ai):Value->Value->Prop where
 | Bn (v:Value):AM μ AI.Bn v
 | bool (b:Bool):AM μ (.bool b) (.bool b)
 | int (k:IntKind) (n:Int):AM μ (.int k n) (.int k n)
 | float (k:FloatKind) (n:Nat):AM μ (.float k n) (.float k n)
 | string (s:ByteArray):AM μ (.string s) (.string s)
 | GS:AM μ (.pointer none) (.pointer none)
 | ptr (b o:Nat) (T:B7) (h:μ b=some T):AM μ (.pointer (some ⟨b,o,none⟩)) (.pointer (some ⟨T.c,T.d+o,none⟩))
 | CD (len cap:Nat):AM μ (.slice none len cap) (.slice none len cap)
 | slice (b o len cap cap' o':Nat) (T:B7) (h:μ b=some T) (hc:Ho T o len cap cap') (ho:o'=T.d+o∨(len=0/\cap'=0)):
  AM μ (.slice (some ⟨b,o,none⟩) len cap) (.slice (some ⟨T.c,o',none⟩) len cap')
 | Gt (b o i:Nat) (T:B7) (h:μ b=some T):AM μ (.pointer (some ⟨b,o,some i⟩)) (.pointer (some ⟨T.c,T.d+(i * T.e+o),none⟩))
 | Bw (b i len cap cap' o':Nat) (T:B7) (h:μ b=some T) (hc:Ho T (i * T.e) len cap cap') (ho:o'=T.d+i * T.e∨(len=0/\cap'=0)) (hr:T.r≠0):
  AM μ (.slice (some ⟨b,0,some i⟩) len cap) (.slice (some ⟨T.c,o',none⟩) len cap')
 | C8 (b i cap:Nat) (T:B7) (a:Option (Nat × Nat)) (h:μ b=some T) (hc:cap=0∨(AF<=cap/\cap - AF=0)):AM μ (.slice (some ⟨b,0,some i⟩) 0 cap) (.slice (a.map fun p=>⟨p.1,p.2,none⟩) 0 0)
 | Cf (b j len cap cap' o':Nat) (T M:B7) (h:μ b=some T) (hm:Jc T.e j=some M) (hc:Ho M 0 len cap cap') (ho:o'=M.d∨(len=0/\cap'=0)) (hr:M.r≠0):
  AM μ (.slice (some ⟨b,1,some j⟩) len cap) (.slice (some ⟨M.c,o',none⟩) len cap')
 | Er (b j cap:Nat) (T:B7) (a:Option (Nat × Nat)) (h:μ b=some T) (hc:cap=0∨(AF<=cap/\cap - AF=0)):AM μ (.slice (some ⟨b,1,some j⟩) 0 cap) (.slice (a.map fun p=>⟨p.1,p.2,none⟩) 0 0)
 | GH:AM μ (.map none) (.map none)
 | map (b:Nat) (T:B7) (h:μ b=some T):AM μ (.map (some b)) (.map (some T.c))
 | func (fn fn':Fn) (xs xs' ys ys':Array Value) (hf:Gp μ fn fn') (hx:xs.size=xs'.size)
  (ex:∀(i:Nat) (h:i < xs.size) (h':i < xs'.size),AM μ xs[i] xs'[i]) (hy:ys.size=ys'.size)
  (ey:∀(i:Nat) (h:i < ys.size) (h':i < ys'.size),AM μ ys[i] ys'[i]):AM μ (.func fn xs ys) (.func fn' xs' ys')
 | nilFunc:AM μ .nilFunc .nilFunc
 | iface (t:TypeId) (v v':Value) (h:AM μ v v'):AM μ (.iface t v) (.iface t v')
 | nilIface:AM μ .nilIface .nilIface
 | agg (xs xs':Array Value) (hx:xs.size=xs'.size) (ex:∀(i:Nat) (h:i < xs.size) (h':i < xs'.size),AM μ xs[i] xs'[i]):AM μ (.agg xs) (.agg xs')
 | tuple (xs xs':Array Value) (hx:xs.size=xs'.size) (ex:∀(i:Nat) (h:i < xs.size) (h':i < xs'.size),AM μ xs[i] xs'[i]):AM μ (.tuple xs) (.tuple xs')
theorem Gp.mono {μ ν:Ai} (hl:μ.le ν) {f f':Fn} (h:Gp μ f f'):Gp ν f f':=by
 cases h with
 | func f=>exact .func f
 | method n=>exact .method n
 | methodOf t n=>exact .methodOf t n
 | via t p f b=>exact .via t p f b
 | yield l T h=>exact .yield l T (hl _ _ h)
theorem AM.mono {μ ν:Ai} (hl:μ.le ν) {v v':Value} (h:AM μ v v'):AM ν v v':=by
 induction h with
 | Bn v=>exact .Bn v
 | bool b=>exact .bool b
 | int k n=>exact .int k n
 | float k n=>exact .float k n
 | string s=>exact .string s
 | GS=>exact .GS
 | ptr b o T h=>exact .ptr b o T (hl _ _ h)
 | CD l c=>exact .CD l c
 | slice b o l k k' o' T h hc ho=>exact .slice b o l k k' o' T (hl _ _ h) hc ho
 | Gt b o i T h=>exact .Gt b o i T (hl _ _ h)
 | Bw b i l k k' o' T h hc ho hr=>exact .Bw b i l k k' o' T (hl _ _ h) hc ho hr
 | C8 b i k T a h hc=>exact .C8 b i k T a (hl _ _ h) hc
 | Cf b j l k k' o' T M h hm hc ho hr=>exact .Cf b j l k k' o' T M (hl _ _ h) hm hc ho hr
 | Er b j k T a h hc=>exact .Er b j k T a (hl _ _ h) hc
 | GH=>exact .GH
 | map b T h=>exact .map b T (hl _ _ h)
 | func fn fn' xs xs' ys ys' hf hx _ hy _ ihx ihy=>exact .func fn fn' xs xs' ys ys' (hf.mono hl) hx ihx hy ihy
 | nilFunc=>exact .nilFunc
 | iface t v v' _ ih=>exact .iface t v v' ih
 | nilIface=>exact .nilIface
 | agg xs xs' hx _ ih=>exact .agg xs xs' hx ih
 | tuple xs xs' hx _ ih=>exact .tuple xs xs' hx ih
theorem AM.undef (μ:Ai):AM μ undef undef:= .tuple _ _ rfl (fun i h=>absurd h (by simp))
inductive BD (μ:Ai):List Value->List Value->Prop where
 | nil:BD μ [] []
 | cons {v v':Value} {l l':List Value} (h:AM μ v v') (t:BD μ l l'):BD μ (v::l) (v'::l')
namespace BD
variable {μ ν:Ai}
theorem mono (hl:μ.le ν) {l l':List Value} (h:BD μ l l'):BD ν l l':=by
 induction h with
 | nil=>exact .nil
 | cons h _ ih=>exact .cons (h.mono hl) ih
theorem length {l l':List Value} (h:BD μ l l'):l.length=l'.length:=by
 induction h with
 | nil=>rfl
 | cons _ _ ih=>simp[ih]
theorem Pd {l l':List Value} (hs:l.length=l'.length) (h:∀(i:Nat) (h:i < l.length) (h':i < l'.length),AM μ l[i] l'[i]):BD μ l l':=by
 induction l generalizing l' with
 | nil=>cases l' with
  | nil=>exact .nil
  | cons=>cases hs
 | cons a l ih=>cases l' with
  | nil=>cases hs
  | cons a' l'=>
   refine .cons (h 0 (by simp) (by simp)) (ih (by simpa using hs) fun i h1 h2=>?_);exact h (i+1) (by simpa using h1) (by simpa using h2)
theorem idx {l l':List Value} (h:BD μ l l'):∀(i:Nat) (h:i < l.length) (h':i < l'.length),AM μ l[i] l'[i]:=by
 induction h with
 | nil=>intro i h;simp at h
 | cons h _ ih=>
  intro i h1 h2;cases i with
  | zero=>exact h
  | succ i=>exact ih i (by simpa using h1) (by simpa using h2)
theorem get? {l l':List Value} (h:BD μ l l') {i:Nat} {v:Value} (hv:l[i]? = some v):∃v',l'[i]? = some v'/\AM μ v v':=by
 induction h generalizing i with
 | nil=>simp at hv
 | cons h _ ih=>
  cases i with
  | zero=>simp at hv;subst hv;exact⟨_,rfl,h⟩
  | succ i=>simp at hv;simpa using ih hv
theorem append {a a' b b':List Value} (h:BD μ a a') (h':BD μ b b'):BD μ (a++b) (a'++b'):=by
 induction h with
 | nil=>exact h'
 | cons h _ ih=>exact .cons h ih
theorem take {l l':List Value} (h:BD μ l l') (n:Nat):BD μ (l.take n) (l'.take n):=by
 induction h generalizing n with
 | nil=>simp;exact .nil
 | cons h _ ih=>cases n with
  | zero=>exact .nil
  | succ n=>exact .cons h (ih n)
theorem drop {l l':List Value} (h:BD μ l l') (n:Nat):BD μ (l.drop n) (l'.drop n):=by
 induction h generalizing n with
 | nil=>simp;exact .nil
 | cons h t ih=>cases n with
  | zero=>exact .cons h t
  | succ n=>exact ih n
theorem set {l l':List Value} (h:BD μ l l') (i:Nat) {v v':Value} (hv:AM μ v v'):BD μ (l.set i v) (l'.set i v'):=by
 induction h generalizing i with
 | nil=>exact .nil
 | cons h t ih=>cases i with
  | zero=>exact .cons hv t
  | succ i=>exact .cons h (ih i)
theorem map {α:Type} (l:List α) (f g:α->Value) (h:∀x∈l,AM μ (f x) (g x)):BD μ (l.map f) (l.map g):=by
 induction l with
 | nil=>exact .nil
 | cons a l ih=>exact .cons (h a (by simp)) (ih fun x hx=>h x (by simp[hx]))
theorem replicate (n:Nat) {v v':Value} (h:AM μ v v'):BD μ (List.replicate n v) (List.replicate n v'):=by
 induction n with
 | zero=>exact .nil
 | succ n ih=>exact .cons h ih
end BD
theorem AM.Cr {μ:Ai} {xs:Array Value} {v':Value}:AM μ (.agg xs) v' ↔ ∃xs',v'= .agg xs'/\BD μ xs.toList xs'.toList:=by
 constructor
 ·intro h;cases h with
  | agg xs xs' hx ex=>exact⟨xs',rfl,.Pd (by simpa using hx) fun i h1 h2=>by simpa using ex i (by simpa using h1) (by simpa using h2)⟩
 ·rintro⟨xs',rfl,h⟩;exact .agg _ _ (by simpa using h.length) fun i h1 h2=>h.idx i (by simpa using h1) (by simpa using h2)
theorem AM.CL {μ:Ai} {xs:Array Value} {v':Value}:AM μ (.tuple xs) v' ↔ ∃xs',v'= .tuple xs'/\BD μ xs.toList xs'.toList:=by
 constructor
 ·intro h;cases h with
  | tuple xs xs' hx ex=>exact⟨xs',rfl,.Pd (by simpa using hx) fun i h1 h2=>by simpa using ex i (by simpa using h1) (by simpa using h2)⟩
 ·rintro⟨xs',rfl,h⟩;exact .tuple _ _ (by simpa using h.length) fun i h1 h2=>h.idx i (by simpa using h1) (by simpa using h2)
theorem AM.CX {μ:Ai} {fn:Fn} {xs ys:Array Value} {v':Value}:AM μ (.func fn xs ys) v' ↔
 ∃fn' xs' ys',v'= .func fn' xs' ys'/\Gp μ fn fn'/\BD μ xs.toList xs'.toList/\BD μ ys.toList ys'.toList:=by
 constructor
 ·intro h;cases h with
  | func fn fn' xs xs' ys ys' hf hx ex hy ey=>
   exact⟨fn',xs',ys',rfl,hf,.Pd (by simpa using hx) fun i h1 h2=>by simpa using ex i (by simpa using h1) (by simpa using h2),
    .Pd (by simpa using hy) fun i h1 h2=>by simpa using ey i (by simpa using h1) (by simpa using h2)⟩
 ·rintro⟨fn',xs',ys',rfl,hf,h,h'⟩;exact .func _ _ _ _ _ _ hf (by simpa using h.length) (fun i h1 h2=>h.idx i (by simpa using h1) (by simpa using h2))
   (by simpa using h'.length) (fun i h1 h2=>h'.idx i (by simpa using h1) (by simpa using h2))
def look (t:Tr Value) (i:Nat):Value:=(t.get i).getD Bn
def FJ (μ:Ai) (t:Tr Value) (n:Nat) (a:Array Value):Prop:=a.size=n/\∀i,AM μ (look t i) (a.getD i Go.undef)
theorem FJ.mono {μ ν:Ai} (hl:μ.le ν) {t:Tr Value} {n:Nat} {a:Array Value} (h:FJ μ t n a):FJ ν t n a:=⟨h.1,fun i=>(h.2 i).mono hl⟩
theorem FJ.put {μ:Ai} {t:Tr Value} {n:Nat} {a:Array Value} (h:FJ μ t n a) {d:Nat} (hd:d < n) {v v':Value} (hv:AM μ v v'):
 FJ μ (t.put d (some v)) n (a.setIfInBounds d v'):=by
 refine⟨by simp[h.1],fun i=>?_⟩;unfold look;rw[Tr.AQ]
 by_cases e:i=d
 ·subst e;rw[if_pos rfl];have:(a.setIfInBounds i v').getD i Go.undef=v':=by
   rw[Array.getD_eq_getD_getElem?,Array.getElem?_setIfInBounds];simp[h.1,hd]
  rw[this];exact hv
 ·rw[if_neg e];have:(a.setIfInBounds d v').getD i Go.undef=a.getD i Go.undef:=by
   rw[Array.getD_eq_getD_getElem?,Array.getElem?_setIfInBounds];simp[Ne.symm e,Array.getD_eq_getD_getElem?]
  rw[this];exact h.2 i
inductive G6 (μ:Ai):Target->Target->Prop where
 | fn (fn fn':Fn) (ys ys':Array Value) (hf:Gp μ fn fn') (hy:BD μ ys.toList ys'.toList):G6 μ (.fn fn ys) (.fn fn' ys')
 | nil:G6 μ .nil .nil
 | builtin (b:Builtin) (ts:Array TypeId) (t:TypeId) (cs:Array Bool):G6 μ (.builtin b ts t cs) (.builtin b ts t cs)
 | collected (r:Nat) (T:B7) (h:μ r=some T):G6 μ (.collected r) (.collected T.c)
structure Pv (μ:Ai) (d d':Deferred):Prop where
 iA:G6 μ d.target d'.target
 args:BD μ d.args.toList d'.args.toList
theorem G6.mono {μ ν:Ai} (hl:μ.le ν) {t t':Target} (h:G6 μ t t'):G6 ν t t':=by
 cases h with
 | fn fn fn' ys ys' hf hy=>exact .fn fn fn' ys ys' (hf.mono hl) (hy.mono hl)
 | nil=>exact .nil
 | builtin b ts t cs=>exact .builtin b ts t cs
 | collected r T h=>exact .collected r T (hl _ _ h)
theorem Pv.mono {μ ν:Ai} (hl:μ.le ν) {d d':Deferred} (h:Pv μ d d'):Pv ν d d':=⟨h.iA.mono hl,h.args.mono hl⟩
inductive CQ (μ:Ai):List Deferred->List Deferred->Prop where
 | nil:CQ μ [] []
 | cons {d d':Deferred} {l l':List Deferred} (h:Pv μ d d') (t:CQ μ l l'):CQ μ (d::l) (d'::l')
theorem CQ.mono {μ ν:Ai} (hl:μ.le ν) {l l':List Deferred} (h:CQ μ l l'):CQ ν l l':=by
 induction h with
 | nil=>exact .nil
 | cons h _ ih=>exact .cons (h.mono hl) ih
theorem CQ.append {μ:Ai} {a a' b b':List Deferred} (h:CQ μ a a') (h':CQ μ b b'):CQ μ (a++b) (a'++b'):=by
 induction h with
 | nil=>exact h'
 | cons h _ ih=>exact .cons h ih
structure Yg where
 state:LoopState
 pending:Option Code
 fn:FuncId
 tmps:Tr Value
 n:Nat
 params:Array Tmp
 assign:Code
 body:Code
 defers:Nat
inductive AK where
 | cells (cs:List Value) (e:Nat) (ro:Bool)
 | loop (l:Yg)
 | deferred (calls:Option (List Deferred))
 | CZ (s:ByteArray) (pos:Nat)
 | map (es:List MapEntry) (clock:Nat)
 | vec (k:EK) (l:List (EK.C k)) (ro:Bool)
 | abs (a:Ab) (ro:Bool)
def AK.ro:AK->Bool
 | .cells _ _ ro=>ro
 | .vec _ _ ro=>ro
 | .abs _ ro=>ro
 | _=>false
def AK.isAbs:AK->Bool
 | .abs _ _=>true
 | _=>false
def AK.void (T:B7):AK->Prop
 | .vec k l _=>l=[]/\T.r=0/\k.length≠0
 | .abs (.mem _ _) _=>True
 | _=>False
def AK.G7:AK->Bool
 | .cells _ _ _=>true
 | .vec _ _ _=>true
 | .abs _ _=>true
 | _=>false
inductive D4 (μ:Ai):List MapEntry->List MapEntry->Prop where
 | nil:D4 μ [] []
 | cons {e e':MapEntry} {l l':List MapEntry} (hk:AM μ e.key e'.key) (hv:AM μ e.val e'.val) (hb:e.born=e'.born) (t:D4 μ l l'):D4 μ (e::l) (e'::l')
theorem D4.mono {μ ν:Ai} (hl:μ.le ν) {l l':List MapEntry} (h:D4 μ l l'):D4 ν l l':=by
 induction h with
 | nil=>exact .nil
 | cons hk hv hb _ ih=>exact .cons (hk.mono hl) (hv.mono hl) hb ih
inductive Cs (μ:Ai):B7->AK->Obj->Prop where
 | cells (T:B7) (cs:List Value) (e:Nat) (ro:Bool) (c:Array Value) (t:TypeId) (lo hi:Nat) (he:e=T.e) (hc:BD μ cs ((c.toList.drop T.d).take cs.length))
  (hr:c.size=T.d+T.r) (hf:ro=false->∀i,i < c.size∨(i=c.size/\e≠1)->¬(lo<=i/\i < hi)):Cs μ T (.cells cs e ro) (.cells c t (lo,hi))
 | loop (T:B7) (l:Yg) (a:Array Value) (R:B7) (ht:FJ μ l.tmps l.n a) (hd:μ l.defers=some R):
  Cs μ T (.loop l) (.loop { state:=l.state,pending:=l.pending,fn:=l.fn,tmps:=a,params:=l.params,assign:=l.assign,body:=l.body,defers:=R.c })
 | DR (T:B7):Cs μ T (.deferred none) (.deferred none)
 | deferred (T:B7) (l l':List Deferred) (h:CQ μ l l'):Cs μ T (.deferred (some l)) (.deferred (some l'))
 | CZ (T:B7) (s:ByteArray) (p:Nat) (hd:T.d=0):Cs μ T (.CZ s p) (.stringIter s p)
 | map (T:B7) (es:List MapEntry) (es':Array MapEntry) (clock:Nat) (h:D4 μ es es'.toList):Cs μ T (.map es clock) (.map es' clock)
 | vec (T:B7) (k:EK) (l:List (EK.C k)) (ro:Bool) (o:Obj) (h:Cs μ T (.cells (A2 k l) k.length ro) o):Cs μ T (.vec k l ro) o
 | Ei (T:B7) (k:EK) (ro:Bool) (o:Obj) (he:k.length=T.e) (hr:T.r=0) (hk:k.length≠0):Cs μ T (.vec k [] ro) o
 | abs (T:B7) (a:Ab) (ro:Bool) (o:Obj):Cs μ T (.abs a ro) o
theorem Cs.mono {μ ν:Ai} (hl:μ.le ν) {T:B7} {o:AK} {o':Obj} (h:Cs μ T o o'):Cs ν T o o':=by
 induction h with
 | cells cs e ro c t lo hi he hc hr hf=>exact .cells T cs e ro c t lo hi he (hc.mono hl) hr hf
 | loop l a R ht hd=>exact .loop T l a R (ht.mono hl) (hl _ _ hd)
 | DR=>exact .DR T
 | deferred l l' h=>exact .deferred T l l' (h.mono hl)
 | CZ s p hd=>exact .CZ T s p hd
 | map es es' clock h=>exact .map T es es' clock (h.mono hl)
 | vec k l ro o _ ih=>exact .vec T k l ro o ih
 | Ei k ro o he hr hk=>exact .Ei T k ro o he hr hk
 | abs a ro o=>exact .abs T a ro o
end Go.AI
namespace Go.AI
def BN (m:AB) (b n:Nat) (u:Value):List Value:=
 [.int .i64 (m.cfg.getD 0 0),.int .i64 (m.cfg.getD 1 0),.int .i64 (m.cfg.getD 2 0),.int .i64 (m.cfg.getD 3 0),.int .i64 (m.cfg.getD 4 0),.int .i64 (m.cfg.getD 5 0),.int .i64 (m.cfg.getD 6 0),.int .i64 m.AN,
  .pointer (some ⟨b,0,none⟩),.pointer (some ⟨n,0,none⟩),.int .i64 m.cost,u,.pointer none,.int .i64 m.state,.bool m.AG]
def YU (n z len:Nat):List (EK.C [.tok]):=List.replicate n Bn++[Value.slice (some ⟨z,0,some 0⟩) len AF]
def D9 (b:Nat):Nat->List (List (ByteArray × ByteArray))->List (EK.C [.tok])
 | _,[]=>[]
 | j,l::L=>Value.slice (some ⟨b,1,some j⟩) l.length AF::D9 b (j+1) L
def AP (b:Nat) (L:List (List (ByteArray × ByteArray))):List (EK.C [.tok]):=D9 b 0 L
def HE (b z:Nat) (L:List (List (ByteArray × ByteArray))) (len:Nat) (r:List (EK.C [.tok])):List (EK.C [.tok]):=AP b L++(Value.slice (some ⟨z,0,some 0⟩) len AF::r)
inductive Dv:Pk->List AK->Prop where
 | DC:Dv (.table []) [.cells [.bool true,.slice none 0 0] 0 false]
 | table (l:List (ByteArray × ByteArray)):Dv (.table l) [.cells [.bool true,.slice (some ⟨1,0,some 0⟩) l.length AF] 0 false,.vec [.str,.str] l false]
 | model (m:AB):Dv (.model m) [.cells (BN m 1 2 (.slice (some ⟨3,0,some 0⟩) m.AJ.length AF)) 0 false,.abs (.pack (.table m.base)) false,.abs (.pack (.table m.now)) false,.vec [.bool,.str,.str] m.AJ false]
 | maps (n:Nat) (l:List (ByteArray × ByteArray)):Dv (.maps n l) [.vec [.tok] (YU n 1 l.length) false,.vec [.str,.str] l false]
 | Co (L:List (List (ByteArray × ByteArray))):Dv (.Co L) [.vec [.tok] (AP 1 L) false,.abs (.mem [.str,.str] (L.map some)) false]
def Eb:Pk->List Nat
 | _=>[]
structure AA where
 m:Tr AK
 next:Nat
def AA.get (H:AA) (b:Nat):Option AK:=H.m.get b
def AA.put (H:AA) (b:Nat) (o:AK):AA:=⟨H.m.put b (some o),H.next⟩
def AA.del (H:AA) (b:Nat):AA:=⟨H.m.put b none,H.next⟩
def AA.alloc (H:AA) (o:AK):AA:=⟨H.m.put H.next (some o),H.next+1⟩
theorem AA.AQ (H:AA) (b i:Nat) (o:AK):(H.put b o).get i=if i=b then some o else H.get i:=Tr.AQ ..
theorem AA.Bb (H:AA) (b i:Nat):(H.del b).get i=if i=b then none else H.get i:=Tr.AQ ..
theorem AA.AW (H:AA) (i:Nat) (o:AK):(H.alloc o).get i=if i=H.next then some o else H.get i:=Tr.AQ ..
theorem ON {W W':World} {e:TypeId} {v:Value} {n:Nat} {xs:List Value} (h:W.ownsRowF 0 e 1 v n xs) (hs:∀i,v.ownBlock=some i->W'.heap[i]? = W.heap[i]?):W'.ownsRowF 0 e 1 v n xs:=by
 obtain⟨h1,h2⟩:=h;refine⟨h1,?_⟩;rcases h2 with h2 | ⟨g,cap,cur,fz,rfl,h3,h4,h5⟩
 ·exact .inl h2
 ·exact .inr ⟨g,cap,cur,fz,rfl,h3,by rw[hs g rfl];exact h4,h5⟩
theorem Q6 {W:World} {e:TypeId} {v:Value} {n:Nat} {xs:List Value} (h:W.ownsRowF 0 e 1 v n xs) {i:Nat} (hi:v.ownBlock=some i):i < W.heap.size:=by
 obtain⟨h1,h2⟩:=h;rcases h2 with⟨rfl,_⟩ | ⟨g,cap,cur,fz,rfl,h3,h4,h5⟩
 ·cases hi
 ·have hi:g=i:=by simpa [Value.ownBlock] using hi
  subst hi;rcases Nat.lt_or_ge g W.heap.size with h' | h'
  ·exact h'
  ·rw[Array.getElem?_eq_none h']at h4;cases h4
def Eh (t e:TypeId) (l:List UInt8) (T:B7) (F:Nat->Prop) (W:World):Prop:=T.d=0/\∃p v:Value,(p= .pointer none∨p= .pointer (some ⟨T.c,0,none⟩))/\W.heap[T.c]? = some (.cells #[p,v] t (0,0))/\W.ownsRowF 0 e 1 v l.length (Lib.byteCells l)/\v.ownBlock≠some T.c/\
 ∀i,F i ↔ i=T.c∨v.ownBlock=some i
def Ny (ν:Ai) (ts:List B7) (ext:List Nat):Ai:=fun b=>if b < ts.length then ts[b]? else match ext[b - ts.length]? with
 | some m=>ν m
 | none=>none
theorem UK {ν:Ai} {ts:List B7} {ext:List Nat} {b:Nat} (h:b < ts.length):Ny ν ts ext b=ts[b]?:=if_pos h
theorem XQ (ν ν':Ai) (ts:List B7):Ny ν ts []=Ny ν' ts []:=by
 funext b
 unfold Ny;split
 ·rfl
 ·rfl
theorem bt {ν ν':Ai} (h:ν.le ν') (ts:List B7) (ext:List Nat):(Ny ν ts ext).le (Ny ν' ts ext):=by
 intro b X hX;unfold Ny at hX ⊢;split at hX
 ·rename_i hb;rw[if_pos hb];exact hX
 ·rename_i hb;rw[if_neg hb];split at hX
  ·rename_i m hm;exact h _ _ hX
  ·cases hX
theorem Cs.ek {μ:Ai} (ν:Ai) {T:B7} {o:AK} {o':Obj} (h:Cs μ T o o') (hv:o.void T) (o2:Obj):Cs ν T o o2:=by
 cases o<;>first | (exact hv.elim) | (exact .abs ..) | skip
 rename_i k l ro;obtain⟨hl0,hr0,hk⟩:=hv;subst hl0;have he:k.length=T.e:=by
  cases h with
  | vec _ _ _ _ hc=>cases hc with
   | cells _ _ _ _ _ _ _ he=>exact he
  | Ei _ _ _ he hr=>exact he
 exact .Ei T k ro _ he hr0 hk
theorem Cs.Ks {μ:Ai} {T:B7} {o:AK} {W W':World} (h:∃o',W.heap[T.c]? = some o'/\Cs μ T o o') (hsz:W.heap.size<=W'.heap.size) (hs:¬o.void T->W'.heap[T.c]? = W.heap[T.c]?):∃o',W'.heap[T.c]? = some o'/\Cs μ T o o':=by
 obtain⟨o',h1,h2⟩:=h
 by_cases hv:o.void T
 ·have hl:T.c < W'.heap.size:=by
   refine Nat.lt_of_lt_of_le ?_ hsz;rcases Nat.lt_or_ge T.c W.heap.size with h' | h'
   ·exact h'
   ·rw[Array.getElem?_eq_none h']at h1;cases h1
  exact⟨_,Array.getElem?_eq_getElem hl,h2.ek μ hv _⟩
 ·exact⟨o',by rw[hs hv];exact h1,h2⟩
theorem Gd {W:World} {i:Nat} {o:Obj} (h:W.heap[i]? = some o):i < W.heap.size:=by
 rcases Nat.lt_or_ge i W.heap.size with h' | h'
 ·exact h'
 ·rw[Array.getElem?_eq_none h']at h;cases h
structure Jz (k:EK) (L:List (Option (List (EK.C k)))) (T:B7) (F:Nat->Prop) (W:World) (ts:List B7):Prop where
 code:T.e=C1 ts
 len:ts.length=L.length
 gV:T.c < W.heap.size
 row:∀(j:Nat) (M:B7) (l:List (EK.C k)),ts[j]? = some M->L[j]? = some (some l)->∃o',W.heap[M.c]? = some o'/\Cs (fun _=>none) M (.vec k l false) o'
 inj:∀(i j:Nat) (M N:B7) (l m:List (EK.C k)),ts[i]? = some M->ts[j]? = some N->L[i]? = some (some l)->L[j]? = some (some m)->¬(AK.vec k l false).void M->¬(AK.vec k m false).void N->M.c=N.c->i=j
 own:∀x,F x ↔ ∃(j:Nat) (M:B7) (l:List (EK.C k)),ts[j]? = some M/\L[j]? = some (some l)/\¬(AK.vec k l false).void M/\x=M.c
theorem Jz.loc {k:EK} {L:List (Option (List (EK.C k)))} {T:B7} {F:Nat->Prop} {W W':World} {ts:List B7} (hsz:W.heap.size<=W'.heap.size) (h:Jz k L T F W ts) (hs:∀i,F i->W'.heap[i]? = W.heap[i]?):Jz k L T F W' ts:=
 ⟨h.code,h.len,Nat.lt_of_lt_of_le h.gV hsz,fun j M l h1 h2=>Cs.Ks (h.row j M l h1 h2) hsz fun hv=>hs _ ((h.own _).2 ⟨j,M,l,h1,h2,hv,rfl⟩),h.inj,h.own⟩
theorem Jz.Gf {k:EK} {L:List (Option (List (EK.C k)))} {T:B7} {F:Nat->Prop} {W:World} {ts:List B7} (h:Jz k L T F W ts):∀i,F i->i < W.heap.size:=fun i hi=>by
 obtain⟨j,M,l,h1,h2,_,rfl⟩:=(h.own i).1 hi;obtain⟨o',h3,_⟩:=h.row j M l h1 h2;exact Gd h3
inductive GM (ν:Ai) (W:World):Pk->B7->(Nat->Prop)->Prop where
 | mk (s:Pk) (objs:List AK) (ts:List B7) (Fs:Nat->Nat->Prop) (T:B7) (F:Nat->Prop) (hr:Dv s objs) (hl:ts.length=objs.length) (hT:ts[0]? = some T)
  (hroot:∀o,objs[0]? = some o->¬o.void T)
  (hobj:∀(i:Nat) (o:AK) (T':B7),objs[i]? = some o->ts[i]? = some T'->o.ro=false/\o.G7=true/\∃o',W.heap[T'.c]? = some o'/\Cs (Ny ν ts (Eb s)) T' o o')
  (hcell:∀(i:Nat) (o:AK) (T':B7),objs[i]? = some o->ts[i]? = some T'->o.isAbs=false->∀x,Fs i x ↔ (x=T'.c/\¬o.void T'))
  (hbld:∀(i:Nat) (t e:TypeId) (l:List UInt8) (ro:Bool) (T':B7),objs[i]? = some (.abs (.WN t e l) ro)->ts[i]? = some T'->Eh t e l T' (Fs i) W)
  (hmem:∀(i:Nat) (k:EK) (L:List (Option (List (EK.C k)))) (ro:Bool) (T':B7),objs[i]? = some (.abs (.mem k L) ro)->ts[i]? = some T'->∃us,Jz k L T' (Fs i) W us)
  (hext:∀(i:Nat) (s':Pk) (ro:Bool),objs[i]? = some (.abs (.pack s') ro)->Eb s'=[])
  (hpack:∀(i:Nat) (s':Pk) (ro:Bool) (T':B7),objs[i]? = some (.abs (.pack s') ro)->ts[i]? = some T'->GM ν W s' T' (Fs i))
  (hdis:∀(i j x:Nat),i < objs.length->j < objs.length->Fs i x->Fs j x->i=j)
  (hF:∀x,F x ↔ ∃i,i < objs.length/\Fs i x):GM ν W s T F
def DH (ν:Ai):Ab->B7->(Nat->Prop)->World->Prop
 | .WN t e l,T,F,W=>Eh t e l T F W
 | .pack s,T,F,W=>GM ν W s T F
 | .mem k L,T,F,W=>∃us,Jz k L T F W us
theorem Eh.loc {t e:TypeId} {l:List UInt8} {T:B7} {F:Nat->Prop} {W W':World} (h:Eh t e l T F W) (hs:∀i,F i->W'.heap[i]? = W.heap[i]?):Eh t e l T F W':=by
 obtain⟨hd,p,v,h1,h2,h3,h4,h5⟩:=h;exact⟨hd,p,v,h1,by rw[hs _ ((h5 _).2 (.inl rfl))];exact h2,ON h3 (fun i hi=>hs i ((h5 i).2 (.inr hi))),h4,h5⟩
theorem Eh.Gf {t e:TypeId} {l:List UInt8} {T:B7} {F:Nat->Prop} {W:World} (h:Eh t e l T F W):F T.c/\∀i,F i->i < W.heap.size:=by
 obtain⟨hd,p,v,h1,h2,h3,h4,h5⟩:=h;refine⟨(h5 _).2 (.inl rfl),fun i hi=>?_⟩;rcases(h5 i).1 hi with rfl | hi
 ·rcases Nat.lt_or_ge T.c W.heap.size with h' | h'
  ·exact h'
  ·rw[Array.getElem?_eq_none h']at h2;cases h2
 ·exact Q6 h3 hi
theorem DY {o:AK} (h:o.isAbs=true):∃a ro,o= .abs a ro:=by
 cases o<;>first | exact⟨_,_,rfl⟩ | cases h
theorem GM.Gf {ν:Ai} {W:World} {s:Pk} {T:B7} {F:Nat->Prop} (h:GM ν W s T F):F T.c/\∀i,F i->i < W.heap.size:=by
 induction h with
 | mk s objs ts Fs T F hr hl hT hroot hobj hcell hbld hmem hext hpack hdis hF ih=>
  have one:∀i,i < objs.length->∃o T',objs[i]? = some o/\ts[i]? = some T'/\(¬o.void T'->Fs i T'.c)/\∀x,Fs i x->x < W.heap.size:=by
   intro i hi;have ho:=List.getElem?_eq_getElem hi;have ht:=List.getElem?_eq_getElem (l:=ts) (i:=i) (by omega);refine⟨_,_,ho,ht,?_⟩;cases hab:(objs[i]).isAbs
   ·have hc:=hcell i _ _ ho ht hab;obtain⟨_,_,o',h1,_⟩:=hobj i _ _ ho ht;exact⟨fun hv=>(hc _).2 ⟨rfl,hv⟩,fun x hx=>by rw[((hc x).1 hx).1];exact Gd h1⟩
   ·obtain⟨a,ro,ha⟩:=DY hab;rw[ha]at ho;cases a with
    | WN t e l=>exact⟨fun _=>(Eh.Gf (hbld i t e l ro _ ho ht)).1,(Eh.Gf (hbld i t e l ro _ ho ht)).2⟩
    | pack s'=>exact⟨fun _=>(ih i s' ro _ ho ht).1,(ih i s' ro _ ho ht).2⟩
    | mem k L=>obtain⟨us,hu⟩:=hmem i k L ro _ ho ht;exact⟨fun hv=>absurd (by rw[ha];trivial) hv,hu.Gf⟩
  have h0:0 < objs.length:=by
   rcases Nat.eq_zero_or_pos objs.length with h | h
   ·rw[List.getElem?_eq_none (by omega)]at hT;cases hT
   ·exact h
  obtain⟨o,T',e0,e1,e2,_⟩:=one 0 h0;rw[hT]at e1;cases e1
  refine⟨(hF _).2 ⟨0,h0,e2 (hroot o e0)⟩,fun x hx=>?_⟩;obtain⟨i,hi,hx⟩:=(hF x).1 hx;obtain⟨_,_,_,_,_,e3⟩:=one i hi;exact e3 x hx
theorem GM.loc {ν:Ai} {W W':World} (hsz:W.heap.size<=W'.heap.size) {s:Pk} {T:B7} {F:Nat->Prop} (h:GM ν W s T F):(∀i,F i->W'.heap[i]? = W.heap[i]?)->GM ν W' s T F:=by
 induction h with
 | mk s objs ts Fs T F hr hl hT hroot hobj hcell hbld hmem hext hpack hdis hF ih=>
  intro hs;have hin:∀i,i < objs.length->∀x,Fs i x->W'.heap[x]? = W.heap[x]?:=fun i hi x hx=>hs x ((hF x).2 ⟨i,hi,hx⟩)
  have lt:∀(i:Nat) (o:AK),objs[i]? = some o->i < objs.length:=fun i o ho=>(List.getElem?_eq_some_iff.1 ho).1
  refine .mk s objs ts Fs T F hr hl hT hroot ?_ hcell ?_ ?_ hext ?_ hdis hF
  ·intro i o T' ho ht;obtain⟨h1,h2,o',h3,h4⟩:=hobj i o T' ho ht;refine⟨h1,h2,?_⟩
   by_cases hv:o.void T'
   ·have hl':T'.c < W'.heap.size:=Nat.lt_of_lt_of_le (Gd h3) hsz;refine⟨W'.heap[T'.c],Array.getElem?_eq_getElem hl',?_⟩;cases o<;>first | (exact hv.elim) | (exact .abs ..) | skip
    rename_i k l ro;obtain⟨hl0,hr0,hk⟩:=hv;subst hl0;have he:k.length=T'.e:=by
     cases h4 with
     | vec _ _ _ _ hc=>cases hc with
      | cells _ _ _ _ _ _ _ he=>exact he
     | Ei _ _ _ he hr=>exact he
    exact .Ei T' k ro _ he hr0 hk
   ·refine⟨o',?_,h4⟩;rw[hin i (lt i o ho)]
    ·exact h3
    ·cases hab:o.isAbs
     ·exact(hcell i o T' ho ht hab _).2 ⟨rfl,hv⟩
     ·obtain⟨a,ro,rfl⟩:=DY hab;cases a with
      | WN t e l=>exact(Eh.Gf (hbld i t e l ro T' ho ht)).1
      | pack s'=>exact(GM.Gf (hpack i s' ro T' ho ht)).1
      | mem k L=>exact absurd trivial hv
  ·intro i t e l ro T' ho ht;exact(hbld i t e l ro T' ho ht).loc (hin i (lt i _ ho))
  ·intro i k L ro T' ho ht;obtain⟨us,hu⟩:=hmem i k L ro T' ho ht;exact⟨us,hu.loc hsz (hin i (lt i _ ho))⟩
  ·intro i s' ro T' ho ht;exact ih i s' ro T' ho ht (hin i (lt i _ ho))
theorem GM.mono {ν ν':Ai} (hle:ν.le ν') {W:World} {s:Pk} {T:B7} {F:Nat->Prop} (h:GM ν W s T F):GM ν' W s T F:=by
 induction h with
 | mk s objs ts Fs T F hr hl hT hroot hobj hcell hbld hmem hext hpack hdis hF ih=>
  refine .mk s objs ts Fs T F hr hl hT hroot (fun i o T' ho ht=>?_) hcell hbld hmem hext ih hdis hF;obtain⟨h1,h2,o',h3,h4⟩:=hobj i o T' ho ht;exact⟨h1,h2,o',h3,h4.mono (bt hle _ _)⟩
theorem GM.closed {ν:Ai} (ν':Ai) {W:World} {s:Pk} {T:B7} {F:Nat->Prop} (h:GM ν W s T F):Eb s=[]->GM ν' W s T F:=by
 induction h with
 | mk s objs ts Fs T F hr hl hT hroot hobj hcell hbld hmem hext hpack hdis hF ih=>
  intro he;refine .mk s objs ts Fs T F hr hl hT hroot (fun i o T' ho ht=>?_) hcell hbld hmem hext (fun i s' ro T' ho ht=>ih i s' ro T' ho ht (hext i s' ro ho)) hdis hF;obtain⟨h1,h2,o',h3,h4⟩:=hobj i o T' ho ht;refine⟨h1,h2,o',h3,?_⟩;rw[he]at h4 ⊢;rw[XQ ν' ν];exact h4
theorem DH.loc:∀{ν:Ai} a T F (W W':World),W.heap.size<=W'.heap.size->DH ν a T F W->(∀i,F i->W'.heap[i]? = W.heap[i]?)->DH ν a T F W':=by
 intro ν a T F W W' hsz h hs;cases a with
 | WN t e l=>exact Eh.loc h hs
 | pack s=>exact GM.loc hsz h hs
 | mem k L=>obtain⟨us,hu⟩:=h;exact⟨us,hu.loc hsz hs⟩
theorem DH.mono {ν ν':Ai} (hle:ν.le ν') {a:Ab} {T:B7} {F:Nat->Prop} {W:World} (h:DH ν a T F W):DH ν' a T F W:=by
 cases a with
 | WN t e l=>exact h
 | pack s=>exact GM.mono hle h
 | mem k L=>exact h
theorem DH.Gf:∀{ν:Ai} a T F W,DH ν a T F W->(¬(AK.abs a false).void T->F T.c)/\∀i,F i->i < W.heap.size:=by
 intro ν a T F W h;cases a with
 | WN t e l=>exact⟨fun _=>(Eh.Gf h).1,(Eh.Gf h).2⟩
 | pack s=>exact⟨fun _=>(GM.Gf h).1,(GM.Gf h).2⟩
 | mem k L=>obtain⟨us,hu⟩:=h;exact⟨fun hv=>absurd trivial hv,hu.Gf⟩
def Ab.ext:Ab->List Nat
 | .WN _ _ _=>[]
 | .pack s=>Eb s
 | .mem _ _=>[]
def jh:List Nat->Bool
 | []=>true
 | _=>false
def Ab.GI (a:Ab):Bool:=jh a.ext
theorem Ab.N5 {a:Ab} (h:a.GI=true):a.ext=[]:=by
 unfold Ab.GI at h;cases he:a.ext with
 | nil=>rfl
 | cons x l=>rw[he]at h;cases h
theorem DH.closed {ν:Ai} (ν':Ai) {a:Ab} {T:B7} {F:Nat->Prop} {W:World} (h:DH ν a T F W) (he:a.ext=[]):DH ν' a T F W:=by
 cases a with
 | WN t e l=>exact h
 | pack s=>exact GM.closed ν' h he
 | mem k L=>exact h
structure Env where
 K:Nat->Prop
 dF:Ai
structure Wp (base:Env) (μ:Ai) (H:AA) (W:World) (φ:Nat->Nat->Prop):Prop where
 rep:∀b a ro T,H.get b=some (.abs a ro)->μ b=some T->DH μ a T (φ b) W/\(ro=false->∀i,φ b i->¬base.K i)
 ER:∀b a ro T,H.get b=some (.abs a ro)->μ b=some T->∀b2 o2 T2,H.get b2=some o2->μ b2=some T2->b2≠b->(¬o2.void T2->¬φ b T2.c)/\(o2.isAbs=true->∀i,φ b i->¬φ b2 i)
theorem AA.BJ {H:AA} {b i:Nat} {o:AK} (e:(H.del b).get i=some o):i≠b/\H.get i=some o:=by
 rw[AA.Bb]at e
 by_cases hi:i=b
 ·rw[if_pos hi]at e;cases e
 ·rw[if_neg hi]at e;exact⟨hi,e⟩
structure AT (base:Env) (W0:World) (μ:Ai) (H:AA) (W:World):Prop where
 obj:∀b o,H.get b=some o->∀T,μ b=some T->∃o',W.heap[T.c]? = some o'/\Cs μ T o o'
 own:∀b o,H.get b=some o->o.ro=false->∀T,μ b=some T->¬o.void T->¬base.K T.c
 inj:∀b1 b2 o1 o2,H.get b1=some o1->H.get b2=some o2->∀T1 T2,μ b1=some T1->μ b2=some T2->¬o1.void T1->¬o2.void T2->T1.c=T2.c->(o1.ro=false∨o2.ro=false)->b1=b2
 fresh:∀b,H.next<=b->H.get b=none/\μ b=none
 bound:∀b T,μ b=some T->T.c < W.heap.size
 size:∀i,base.K i->i < W.heap.size
 below:∀i,base.K i->W.heap[i]? = W0.heap[i]?
 out:W.output=W0.output
 os:W.os=W0.os
 abs:∃φ,Wp base μ H W φ
 le:base.dF.le μ
 grow:W0.heap.size<=W.heap.size
structure Ak (μ:Ai) (H:AA) (μ':Ai) (H':AA):Prop where
 le:μ.le μ'
 next:H.next<=H'.next
 ghost:∀b,b < H.next->μ b=none->μ' b=none/\H'.get b=H.get b
theorem Ak.refl (μ:Ai) (H:AA):Ak μ H μ H:=⟨Ai.le_refl _,Nat.le_refl _,fun _ _ h=>⟨h,rfl⟩⟩
theorem Ak.trans {μ ν ξ:Ai} {H I J:AA} (h:Ak μ H ν I) (h':Ak ν I ξ J):Ak μ H ξ J:=
 ⟨Ai.le_trans h.le h'.le,Nat.le_trans h.next h'.next,fun b hb hm=>
  have h1:=h.ghost b hb hm;have h2:=h'.ghost b (Nat.lt_of_lt_of_le hb h.next) h1.1
  ⟨h2.1,h2.2.trans h1.2⟩⟩
section
variable {base:Env} {W0:World} {μ:Ai} {H:AA} {W:World}
theorem AT.lt (h:AT base W0 μ H W) {b:Nat} {o:AK} (hb:H.get b=some o):b < H.next:=by
 rcases Nat.lt_or_ge b H.next with h' | h'
 ·exact h'
 ·rw[(h.fresh b h').1]at hb;cases hb
theorem AT.NY (h:AT base W0 μ H W) {b:Nat} {x:B7} (hb:μ b=some x):b < H.next:=by
 rcases Nat.lt_or_ge b H.next with h' | h'
 ·exact h'
 ·rw[(h.fresh b h').2]at hb;cases hb
theorem AT.drawn (h:AT base W0 μ H W) (n:Nat):AT base W0 μ H { W with drawn:=n }:=
 ⟨h.obj,h.own,h.inj,h.fresh,h.bound,h.size,h.below,h.out,h.os,let ⟨φ,q⟩:=h.abs;⟨φ,fun b a ro T h1 h2=>let ⟨r1,r2⟩:=q.rep b a ro T h1 h2;⟨DH.loc _ _ _ W _ (Nat.le_refl _) r1 (fun _ _=>rfl),r2⟩,q.ER⟩,h.le,h.grow⟩
theorem AT.update (h:AT base W0 μ H W) {b:Nat} {T:B7} {o o1:AK} (hb:H.get b=some o) (hro:o.ro=false) (hm:μ b=some T) {W':World} {o1':Obj}
 (hsz:W'.heap.size=W.heap.size) (hother:∀i,i≠T.c->W'.heap[i]? = W.heap[i]?) (hc:W'.heap[T.c]? = some o1') (ho:Cs μ T o1 o1') (hout:W'.output=W.output) (hos:W'.os=W.os)
 (hna1:o1.isAbs=false:=by rfl) (hsol:¬o.void T:=by exact id):
 AT base W0 μ (H.put b o1) W'/\Ak μ H μ (H.put b o1):=by
 have hbase:=h.own b o hb hro T hm hsol;refine⟨⟨?_,?_,?_,?_,?_,?_,?_,?_,?_,?_,h.le,by rw[hsz];exact h.grow⟩,⟨Ai.le_refl _,Nat.le_refl _,?_⟩⟩
 ·intro b' o' hb' T' hm';rw[AA.AQ]at hb'
  by_cases e:b'=b
  ·subst e;rw[if_pos rfl]at hb';cases hb'
   rw[hm]at hm';cases hm'
   exact⟨o1',hc,ho⟩
  ·rw[if_neg e]at hb';exact Cs.Ks (h.obj b' o' hb' T' hm') (by rw[hsz];exact Nat.le_refl _) fun hv=>hother _ fun e'=>e (h.inj b' b _ _ hb' hb T' T hm' hm hv hsol e' (.inr hro))
 ·intro b' o' hb' hro' T' hm' hv;rw[AA.AQ]at hb'
  by_cases e:b'=b
  ·subst e;rw[hm]at hm';cases hm';exact hbase
  ·rw[if_neg e]at hb';exact h.own b' o' hb' hro' T' hm' hv
 ·intro b1 b2 p1 p2 h1 h2 T1 T2 m1 m2 v1 v2 hcc hrr;rw[AA.AQ]at h1 h2
  by_cases e1:b1=b<;>by_cases e2:b2=b
  ·rw[e1,e2]
  ·subst e1;rw[if_neg e2]at h2;rw[hm]at m1;cases m1;exact h.inj b1 b2 _ _ hb h2 _ T2 hm m2 hsol v2 hcc (.inl hro)
  ·subst e2;rw[if_neg e1]at h1;rw[hm]at m2;cases m2;exact h.inj b1 b2 _ _ h1 hb T1 _ m1 hm v1 hsol hcc (.inr hro)
  ·rw[if_neg e1]at h1;rw[if_neg e2]at h2;exact h.inj b1 b2 _ _ h1 h2 T1 T2 m1 m2 v1 v2 hcc hrr
 ·intro b' hb';have hlt:=h.lt hb;have hb2:H.next<=b':=hb';refine⟨?_,(h.fresh b' hb2).2⟩;rw[AA.AQ,if_neg (by omega)];exact(h.fresh b' hb2).1
 ·intro b' T' hm';rw[hsz];exact h.bound b' T' hm'
 ·intro i hi;rw[hsz];exact h.size i hi
 ·intro i hi;rw[hother i (by rintro rfl;exact hbase hi)];exact h.below i hi
 ·rw[hout];exact h.out
 ·rw[hos];exact h.os
 ·obtain⟨φ,q⟩:=h.abs;have key:∀b' o',(H.put b o1).get b'=some o'->(b'=b/\o'=o1)∨(b'≠b/\H.get b'=some o'):=by
   intro b' o' hb';rw[AA.AQ]at hb'
   by_cases e:b'=b
   ·rw[if_pos e]at hb';cases hb';exact .inl ⟨e,rfl⟩
   ·rw[if_neg e]at hb';exact .inr ⟨e,hb'⟩
  refine⟨φ,?_,?_⟩
  ·intro b' a ro T' hb' hm';rcases key b' _ hb' with⟨_,e⟩ | ⟨hne,hb2⟩
   ·rw[<-e]at hna1;cases hna1
   ·obtain⟨r1,r2⟩:=q.rep b' a ro T' hb2 hm';have hfar:=(q.ER b' a ro T' hb2 hm' b o T hb hm (Ne.symm hne)).1 hsol;exact⟨DH.loc _ _ _ _ _ (by rw[hsz];exact Nat.le_refl _) r1 (fun i hi=>hother i (by rintro rfl;exact hfar hi)),r2⟩
  ·intro b' a ro T' hb' hm' b2 o2 T2 hb2 hm2 hne2;rcases key b' _ hb' with⟨_,e⟩ | ⟨hne,hb3⟩
   ·rw[<-e]at hna1;cases hna1
   ·rcases key b2 _ hb2 with⟨rfl,rfl⟩ | ⟨hne3,hb4⟩
    ·rw[hm]at hm2;cases hm2
     exact⟨fun _=>(q.ER b' a ro T' hb3 hm' b2 o _ hb hm hne2).1 hsol,fun e=>by rw[hna1]at e;cases e⟩
    ·exact q.ER b' a ro T' hb3 hm' b2 o2 T2 hb4 hm2 hne2
 ·intro b' hb' hm';refine⟨hm',?_⟩;rw[AA.AQ,if_neg];rintro rfl;rw[hm]at hm';cases hm'
theorem AT.Hr (h:AT base W0 μ H W) {T:B7} {o:AK} {o':Obj} {W':World} (hsz:W.heap.size<=W'.heap.size) (hother:∀i,i < W.heap.size->i≠T.c->W'.heap[i]? = W.heap[i]?)
 (hne:∀b p T',H.get b=some p->μ b=some T'->¬p.void T'->T'.c≠T.c) (hφ:∃φ,Wp base μ H W φ/\∀b a ro,H.get b=some (.abs a ro)->(∃T',μ b=some T')->¬φ b T.c)
 (hT:W'.heap[T.c]? = some o') (hbase:¬base.K T.c) (ho:Cs μ T o o') (hout:W'.output=W.output) (hos:W'.os=W.os) (hna:o.isAbs=false:=by rfl):
 AT base W0 (μ.ext H.next T) (H.alloc o) W'/\Ak μ H (μ.ext H.next T) (H.alloc o):=by
 have hn:=(h.fresh H.next (Nat.le_refl _)).2;have hle:=Ai.DU T hn;have hlt:T.c < W'.heap.size:=by
  rcases Nat.lt_or_ge T.c W'.heap.size with hh | hh
  ·exact hh
  ·rw[Array.getElem?_eq_none hh]at hT;cases hT
 have key:∀i X,(μ.ext H.next T) i=some X->(i=H.next/\X=T)∨(i≠H.next/\μ i=some X):=by
  intro i X e
  by_cases hi:i=H.next
  ·subst hi;rw[Ai.Av]at e;cases e;exact .inl ⟨rfl,rfl⟩
  ·rw[Ai.Bl _ _ hi]at e;exact .inr ⟨hi,e⟩
 refine⟨⟨?_,?_,?_,?_,?_,?_,?_,?_,?_,?_,Ai.le_trans h.le hle,Nat.le_trans h.grow hsz⟩,⟨hle,by simp[AA.alloc],?_⟩⟩
 ·intro b p hb X hm;rcases key b X hm with⟨rfl,rfl⟩ | ⟨hne',hm'⟩
  ·rw[AA.AW,if_pos rfl]at hb;cases hb
   exact⟨o',hT,ho.mono hle⟩
  ·rw[AA.AW,if_neg hne']at hb;obtain⟨o2,h2,h3⟩:=Cs.Ks (W':=W') (h.obj b p hb X hm') hsz fun hv=>hother _ (h.bound b X hm') (hne b p X hb hm' hv)
   exact⟨o2,h2,h3.mono hle⟩
 ·intro b p hb hr X hm hv;rcases key b X hm with⟨rfl,rfl⟩ | ⟨hne',hm'⟩
  ·exact hbase
  ·rw[AA.AW,if_neg hne']at hb;exact h.own b p hb hr X hm' hv
 ·intro b1 b2 p1 p2 h1 h2 T1 T2 m1 m2 v1 v2 hcc hrr;rcases key b1 T1 m1 with⟨e1,rfl⟩ | ⟨n1,m1'⟩<;>rcases key b2 T2 m2 with⟨e2,e3⟩ | ⟨n2,m2'⟩
  ·rw[e1,e2]
  ·rw[AA.AW,if_neg n2]at h2;exact absurd hcc.symm (hne b2 _ T2 h2 m2' v2)
  ·rw[AA.AW,if_neg n1]at h1;subst e3;exact absurd hcc (hne b1 _ T1 h1 m1' v1)
  ·rw[AA.AW,if_neg n1]at h1;rw[AA.AW,if_neg n2]at h2
   exact h.inj b1 b2 _ _ h1 h2 T1 T2 m1' m2' v1 v2 hcc hrr
 ·intro b hb;have hb':H.next+1<=b:=hb;refine⟨?_,?_⟩
  ·rw[AA.AW,if_neg (by omega)];exact(h.fresh b (by omega)).1
  ·rw[Ai.Bl _ _ (by omega)];exact(h.fresh b (by omega)).2
 ·intro b X hm;rcases key b X hm with⟨rfl,rfl⟩ | ⟨hne',hm'⟩
  ·exact hlt
  ·have:=h.bound b X hm';omega
 ·intro i hi;have:=h.size i hi;omega
 ·intro i hi;rw[hother i (h.size i hi) (by rintro rfl;exact hbase hi)];exact h.below i hi
 ·rw[hout];exact h.out
 ·rw[hos];exact h.os
 ·obtain⟨φ,q,hq⟩:=hφ;have key2:∀b' p,(H.alloc o).get b'=some p->(b'=H.next/\p=o)∨(b'≠H.next/\H.get b'=some p):=by
   intro b' p hb';rw[AA.AW]at hb'
   by_cases e:b'=H.next
   ·rw[if_pos e]at hb';cases hb';exact .inl ⟨e,rfl⟩
   ·rw[if_neg e]at hb';exact .inr ⟨e,hb'⟩
  refine⟨φ,?_,?_⟩
  ·intro b' a ro T' hb' hm';rcases key2 b' _ hb' with⟨_,e⟩ | ⟨hne',hb2⟩
   ·rw[<-e]at hna;cases hna
   ·rw[Ai.Bl _ _ hne']at hm';obtain⟨r1,r2⟩:=q.rep b' a ro T' hb2 hm';exact⟨(DH.loc _ _ _ _ _ hsz r1 (fun i hi=>hother i ((DH.Gf _ _ _ _ r1).2 i hi) (by rintro rfl;exact hq b' a ro hb2 ⟨T',hm'⟩ hi))).mono hle,r2⟩
  ·intro b' a ro T' hb' hm' b2 o2 T2 hb2 hm2 hne2;rcases key2 b' _ hb' with⟨_,e⟩ | ⟨hne',hb3⟩
   ·rw[<-e]at hna;cases hna
   ·rw[Ai.Bl _ _ hne']at hm';rcases key2 b2 _ hb2 with⟨rfl,rfl⟩ | ⟨hne3,hb4⟩
    ·rw[Ai.Av]at hm2;cases hm2
     exact⟨fun _=>hq b' a ro hb3 ⟨T',hm'⟩,fun e=>by rw[hna]at e;cases e⟩
    ·rw[Ai.Bl _ _ hne3]at hm2;exact q.ER b' a ro T' hb3 hm' b2 o2 T2 hb4 hm2 hne2
 ·intro b hb hm;have hb':b < H.next:=hb;refine⟨?_,?_⟩
  ·rw[Ai.Bl _ _ (by omega)];exact hm
  ·rw[AA.AW,if_neg (by omega)]
theorem AT.alloc (h:AT base W0 μ H W) {T:B7} {o:AK} {o':Obj} (hT:T.c=W.heap.size) (ho:Cs μ T o o') (hna:o.isAbs=false:=by rfl):
 AT base W0 (μ.ext H.next T) (H.alloc o) (W.alloc o')/\Ak μ H (μ.ext H.next T) (H.alloc o):=by
 have C2:∀i,i < W.heap.size->(W.alloc o').heap[i]? = W.heap[i]?:=by
  intro i hi;show(W.heap.push o')[i]? = W.heap[i]?;rw[Array.getElem?_push,if_neg (by omega)]
 obtain⟨φ,q⟩:=h.abs;refine h.Hr (by simp) (fun i hi _=>C2 i hi) (fun b p T' hb hm=>by have:=h.bound b T' hm;omega) ⟨φ,q,fun b a ro hb ⟨T',hm⟩ hc=>?_⟩ ?_ (fun hk=>by have:=h.size _ hk;omega) ho rfl rfl hna
 ·have:=(DH.Gf _ _ _ _ (q.rep b a ro T' hb hm).1).2 _ hc;omega
 rw[hT];show(W.heap.push o')[W.heap.size]? = some o';simp
theorem AT.del (h:AT base W0 μ H W) {b:Nat} {T:B7} (hm:μ b=some T):AT base W0 μ (H.del b) W/\Ak μ H μ (H.del b):=by
 have key:∀i o,(H.del b).get i=some o->i≠b/\H.get i=some o:=by
  intro i o e;rw[AA.Bb]at e
  by_cases hi:i=b
  ·rw[if_pos hi]at e;cases e
  ·rw[if_neg hi]at e;exact⟨hi,e⟩
 refine⟨⟨fun i o e=>h.obj i o (key i o e).2,fun i o e=>h.own i o (key i o e).2,fun b1 b2 o1 o2 h1 h2=>h.inj b1 b2 o1 o2 (key _ _ h1).2 (key _ _ h2).2,?_,h.bound,h.size,h.below,h.out,h.os,
  let ⟨φ,q⟩:=h.abs;⟨φ,fun b' a ro T' h1 h2=>q.rep b' a ro T' (key _ _ h1).2 h2,fun b' a ro T' h1 h2 b2 o2 T2 h3 h4 h5=>q.ER b' a ro T' (key _ _ h1).2 h2 b2 o2 T2 (key _ _ h3).2 h4 h5⟩,h.le,h.grow⟩,
  ⟨Ai.le_refl _,Nat.le_refl _,?_⟩⟩
 ·intro i hi;refine⟨?_,(h.fresh i hi).2⟩;rw[AA.Bb]
  by_cases e:i=b
  ·rw[if_pos e]
  ·rw[if_neg e];exact(h.fresh i hi).1
 ·intro i hi hn;refine⟨hn,?_⟩;rw[AA.Bb,if_neg];rintro rfl;rw[hm]at hn;cases hn
theorem AT.cell (h:AT base W0 μ H W) {b e i:Nat} {T:B7} {cs:List Value} {ro:Bool} {v:Value} (hb:H.get b=some (.cells cs e ro)) (hm:μ b=some T) (hv:cs[i]? = some v):
 ∃v',W.cell? ⟨T.c,T.d+i,none⟩=some v'/\AM μ v v':=by
 obtain⟨o',ho',hr⟩:=h.obj b _ hb T hm;cases hr with
 | cells _ _ _ a t lo hi he hc hr hf=>
  obtain⟨v',h1,h2⟩:=hc.get? hv;refine⟨v',?_,h2⟩;simp only[World.cell?,ho'];rw[List.getElem?_take]at h1;split at h1
  ·rw[List.getElem?_drop]at h1;simpa using h1
  ·cases h1
theorem AT.frozen (h:AT base W0 μ H W) {b e i:Nat} {T:B7} {cs:List Value} {v:Value} (hb:H.get b=some (.cells cs e false)) (hm:μ b=some T) (hv:cs[i]? = some v):
 W.frozen? ⟨T.c,T.d+i,none⟩=false:=by
 obtain⟨v',hc',_⟩:=h.cell hb hm hv;obtain⟨o',ho',hr⟩:=h.obj b _ hb T hm;cases hr with
 | cells _ _ _ a t lo hi he hc hr hf=>
  simp only[World.cell?,ho']at hc';simp only[World.frozen?,ho'];have hlt:T.d+i < a.size:=by
   rcases Nat.lt_or_ge (T.d+i) a.size with hh | hh
   ·exact hh
   ·rw[Array.getElem?_eq_none hh]at hc';simp at hc'
  have:=hf rfl (T.d+i) (.inl hlt);simp only[Bool.and_eq_false_iff,decide_eq_false_iff_not];omega
theorem AT.row (h:AT base W0 μ H W) {b e off:Nat} {T:B7} {cs l:List Value} {ro:Bool} (hb:H.get b=some (.cells cs e ro)) (hm:μ b=some T) (hl:(cs.drop off).take l.length=l) (P:Program):
 ∃l',BD μ l l'/\(loadCells ⟨T.c,T.d+off,none⟩ l.length).run P W= .ok l'.toArray W/\∀j v,l'[j]? = some v->W.cell? ⟨T.c,T.d+off+j,none⟩=some v:=by
 have key:∀(n:Nat) (l:List Value),l.length=n->(∀j v,l[j]? = some v->cs[off+j]? = some v)->∃l',BD μ l l'/\∀j v,l'[j]? = some v->W.cell? ⟨T.c,T.d+off+j,none⟩=some v:=by
  intro n;induction n with
  | zero=>
   intro l hl _;obtain rfl:=List.eq_nil_of_length_eq_zero hl;exact⟨[],.nil,fun j v e=>by simp at e⟩
  | succ n ih=>
   intro l hl hj;obtain⟨l0,x,rfl⟩:∃l0 x,l=l0++[x]:=⟨l.dropLast,l.getLast (by intro e;subst e;simp at hl),(List.dropLast_concat_getLast _).symm⟩
   simp at hl;obtain⟨l',h1,h2⟩:=ih l0 hl fun j v e=>hj j v (by
    rw[List.getElem?_append_left (by have:=(List.getElem?_eq_some_iff.1 e).1;exact this)];exact e)
   obtain⟨x',h3,h4⟩:=h.cell hb hm (hj l0.length x (by simp));refine⟨l'++[x'],h1.append (.cons h4 .nil),fun j v e=>?_⟩;rcases Nat.lt_or_ge j l'.length with hlt | hge
   ·rw[List.getElem?_append_left hlt]at e;exact h2 j v e
   ·rw[List.getElem?_append_right hge]at e;have hz:j - l'.length=0:=by
     rcases Nat.eq_zero_or_pos (j - l'.length)with e0 | e0
     ·exact e0
     ·rw[List.getElem?_eq_none (by simp;omega)]at e;cases e
    rw[hz]at e;simp at e;subst e
    have:j=l0.length:=by have:=h1.length;omega
    subst this;rw[Nat.add_assoc];exact h3
 obtain⟨l',h1,h2⟩:=key l.length l rfl (fun j v e=>by
  rw[<-hl,List.getElem?_take]at e;split at e
  ·rwa [List.getElem?_drop]at e
  ·cases e)
 refine⟨l',h1,?_,h2⟩;rw[h1.length];exact run_loadCells_list W _ l' fun j v e=>by
  have:=h2 j v e;have hadd:(⟨T.c,T.d+off,none⟩:Addr).add j=⟨T.c,T.d+off+j,none⟩:=by unfold Addr.add;split<;>simp_all
  rw[hadd];exact this
theorem OW (c:List Value) (d n i:Nat) (v:Value) (hi:i < n):((c.set (d+i) v).drop d).take n=((c.drop d).take n).set i v:=by
 apply List.ext_getElem?
 intro j;rw[List.getElem?_take,List.getElem?_drop,List.getElem?_set,List.getElem?_set,List.getElem?_take,List.getElem?_drop]
 by_cases hj:j < n<;>by_cases e:i=j
 ·subst e;simp[hj]
  by_cases hs:d+i < c.length
  ·simp[hs];omega
  ·simp[hs];omega
 ·simp[hj,e]
 ·omega
 ·simp[hj,e]
theorem AT.dz (h:AT base W0 μ H W) {b e i:Nat} {T:B7} {cs:List Value} {v v':Value} (hb:H.get b=some (.cells cs e false)) (hm:μ b=some T) (hi:i < cs.length) (hv:AM μ v v'):
 AT base W0 μ (H.put b (.cells (cs.set i v) e false)) (W.setCell ⟨T.c,T.d+i,none⟩ v')/\Ak μ H μ (H.put b (.cells (cs.set i v) e false)):=by
 obtain⟨o',ho',hr⟩:=h.obj b _ hb T hm;cases hr with
 | cells _ _ _ a t lo hi' he hc hr hf=>
  refine h.update (o1':= .cells (a.setIfInBounds (T.d+i) v') t (lo,hi')) hb rfl hm (by simp) (fun j hj=>?_) ?_ ?_ rfl rfl
  ·simp only[World.setCell,Array.getElem?_modify];rw[if_neg (Ne.symm hj)]
  ·simp only[World.setCell,Array.getElem?_modify,if_true,ho'];rfl
  ·refine .cells T _ _ false _ t lo hi' he ?_ (by simpa using hr) (fun _ j hj=>hf rfl j (by simpa using hj));have hlen:=hc.length;rw[List.length_set,Array.toList_setIfInBounds,OW _ _ _ _ _ hi];exact hc.set i hv
theorem U3 (H:AA) (b:Nat) (x y:AK):(H.put b x).put b y=H.put b y:=by
 unfold AA.put Tr.put;have:∀(p:F4) (t:Tr AK),(t.E9 (some x) p).E9 (some y) p=t.E9 (some y) p:=by
  intro p;induction p with
  | e=>intro t;cases t<;>rfl
  | z p ih=>intro t;cases t with
   | leaf=>show Tr.node (((Tr.leaf).E9 (some x) p).E9 (some y) p) none .leaf=_;rw[ih];rfl
   | node l v r=>show Tr.node ((l.E9 (some x) p).E9 (some y) p) v r=_;rw[ih];rfl
  | o p ih=>intro t;cases t with
   | leaf=>show Tr.node .leaf none (((Tr.leaf).E9 (some x) p).E9 (some y) p)=_;rw[ih];rfl
   | node l v r=>show Tr.node l v ((r.E9 (some x) p).E9 (some y) p)=_;rw[ih];rfl
 simp[this]
def BX (cs:List Value) (i:Nat) (l:List Value):List Value:=cs.take i++(l++cs.drop (i+l.length))
theorem Fc (cs:List Value) (i:Nat) (v:Value) (l:List Value) (h:i+(l.length+1)<=cs.length):BX cs i (v::l)=BX (cs.set i v) (i+1) l:=by
 induction i generalizing cs with
 | zero=>
  cases cs with
  | nil=>simp at h
  | cons x cs=>simp[BX,Nat.add_comm 1]
 | succ i ih=>
  cases cs with
  | nil=>simp at h
  | cons x cs=>
   have:=ih cs (by simp at h;omega);simp only[BX,List.set_cons_succ,List.take_succ_cons,List.length_cons]at this ⊢;rw[show i+1+(l.length+1)=(i+(l.length+1))+1 by omega,show i+1+1+l.length=(i+1+l.length)+1 by omega,List.drop_succ_cons,List.drop_succ_cons];exact congrArg (List.cons x) this
theorem Hy (cs:List Value) (i:Nat):BX cs i []=cs:=by simp[BX]
def Bh:Value->Bool
 | .agg _ | .tuple _ | .chan _=>false
 | _=>true
theorem H4 {v v':Value} (h:AM μ v v') (ho:Bh v=true):v'.oneCell'=true:=by
 cases h<;>first | rfl | (simp[Bh,Bn]at ho)
theorem AT.Pc (P:Program) {b e:Nat} {T:B7} (hm:μ b=some T):∀(l l':List Value) (H:AA) (W:World) (cs:List Value) (i k:Nat),AT base W0 μ H W->H.get b=some (.cells cs e false)->BD μ l l'->l.all Bh=true->
 i+k+l.length<=cs.length->∃W',(storeCells ⟨T.c,T.d+i,none⟩ l' k).run P W= .ok () W'/\AT base W0 μ (H.put b (.cells (BX cs (i+k) l) e false)) W'/\Ak μ H μ (H.put b (.cells (BX cs (i+k) l) e false)):=by
 intro l;induction l with
 | nil=>
  intro l' H W cs i k h hb hl _ _;cases hl
  refine⟨W,rfl,?_⟩;rw[Hy];obtain⟨o',ho',hr⟩:=h.obj b _ hb T hm;exact h.update hb rfl hm rfl (fun _ _=>rfl) ho' hr rfl rfl
 | cons v l ih=>
  intro l' H W cs i k h hb hl hok hlen;cases hl with
  | @cons _ v' _ l' hv ht=>
   simp only[List.all_cons,Bool.and_eq_true]at hok;simp only[List.length_cons]at hlen;have hadd:(⟨T.c,T.d+i,none⟩:Addr).add k=⟨T.c,T.d+(i+k),none⟩:=by unfold Addr.add;split<;>simp_all;omega
   have hget:cs[i+k]? = some (cs[i+k]'(by omega)):=List.getElem?_eq_getElem (by omega);obtain⟨u,hu,_⟩:=h.cell hb hm hget;have hfz:=h.frozen hb hm hget;have hst:(store ((⟨T.c,T.d+i,none⟩:Addr).add k) v').run P W= .ok () (W.setCell ⟨T.c,T.d+(i+k),none⟩ v'):=by
    rw[hadd,run_store P W _ v' _ (H4 hv hok.1)];simp[hu,hfz]
   obtain⟨h1,e1⟩:=h.dz (v:=v) hb hm (i:=i+k) (by omega) hv;obtain⟨W',hw,h2,e2⟩:=ih l' _ _ (cs.set (i+k) v) i (k+1) h1 (by rw[AA.AQ,if_pos rfl]) ht hok.2 (by simp;omega);refine⟨W',?_,?_,?_⟩
   ·simp only[storeCells,Sem.run_bind,hst,Result.andThen_ok,hw]
   ·rw[U3]at h2;rw[Fc _ _ _ _ (by omega)];exact h2
   ·have:=e1.trans e2;rw[U3]at this;rw[Fc _ _ _ _ (by omega)];exact this
end
def KL {α:Type} (P:Program) (s:Sem α):Option α:=
 Sem.rec (motive:=fun _=>Option α) (fun a=>some a) (fun _ _ _ _=>none) (fun _ _ _ _ _=>none) (fun _ _ _=>none) (fun _ _ _=>none) (fun _ _ _ _=>none) (fun _ _ _=>none)
  (fun _ _ _=>none) (fun _ _ _ _=>none) (fun _ _ _=>none) (fun _ _ _=>none) (fun _ ih=>ih P) (fun _ _ ih=>ih) (fun _=>none) s
theorem Ll {α:Type} {P:Program} {s:Sem α} {a:α} (h:KL P s=some a) (w:World):s.run P w= .ok a w:=by
 induction s with
 | pure b=>simp[KL]at h;subst h;rfl
 | program k ih=>exact ih P h
 | mark m k ih=>exact ih h
 | _=>simp[KL]at h
def Ct:Nat->Value->Bool
 | 0,_=>false
 | n+1,v=>match v with
  | .bool _ | .int _ _ | .float _ _ | .string _ | .pointer none | .slice none _ _ | .map none | .nilFunc | .nilIface=>true
  | .iface _ v=>Ct n v
  | .agg cs | .tuple cs=>cs.toList.all (Ct n)
  | _=>false
theorem YQ {μ:Ai}:∀(n:Nat) (v v':Value),Ct n v=true->AM μ v v'->v'=v:=by
 intro n;induction n with
 | zero=>intro v v' h;cases h
 | succ n ih=>
  have hl:∀(l l':List Value),l.all (Ct n)=true->BD μ l l'->l'=l:=by
   intro l;induction l with
   | nil=>intro l' _ h;cases h;rfl
   | cons a l ihl=>
    intro l' h hr;cases hr with
    | cons hv ht=>
     simp only[List.all_cons,Bool.and_eq_true]at h;rw[ih _ _ h.1 hv,ihl _ h.2 ht]
  intro v v' h hr;cases hr with
  | Bn=>simp[Ct,Bn]at h
  | iface t a a' hv=>simp only[Ct]at h;rw[ih _ _ h hv]
  | agg xs xs' hx ex=>
   obtain⟨ys,he,hl'⟩:=AM.Cr.1 (.agg xs xs' hx ex);cases he
   simp only[Ct]at h;have:=hl _ _ h hl';rw[Array.toList_inj.1 this]
  | tuple xs xs' hx ex=>
   obtain⟨ys,he,hl'⟩:=AM.CL.1 (.tuple xs xs' hx ex);cases he
   simp only[Ct]at h;have:=hl _ _ h hl';rw[Array.toList_inj.1 this]
  | bool | int | float | string | GS | CD | GH | nilFunc | nilIface=>rfl
  | ptr | slice | Gt | Bw | C8 | Cf | Er | map | func=>simp[Ct]at h
theorem St (μ:Ai):∀(n:Nat) (v:Value),Ct n v=true->AM μ v v:=by
 intro n;induction n with
 | zero=>intro v h;cases h
 | succ n ih=>
  have hl:∀(l:List Value),l.all (Ct n)=true->BD μ l l:=by
   intro l;induction l with
   | nil=>intro _;exact .nil
   | cons a l ihl=>
    intro h;simp only[List.all_cons,Bool.and_eq_true]at h;exact .cons (ih _ h.1) (ihl h.2)
  intro v h;unfold Ct at h;split at h
  ·exact .bool _
  ·exact .int _ _
  ·exact .float _ _
  ·exact .string _
  ·exact .GS
  ·exact .CD _ _
  ·exact .GH
  ·exact .nilFunc
  ·exact .nilIface
  ·exact .iface _ _ _ (ih _ h)
  ·exact AM.Cr.2 ⟨_,rfl,hl _ h⟩
  ·exact AM.CL.2 ⟨_,rfl,hl _ h⟩
  ·cases h
def flat (v:Value):Bool:=Ct 8 v
theorem FL {μ:Ai} {v v':Value} (h:flat v=true) (hr:AM μ v v'):v'=v:=YQ 8 v v' h hr
theorem Cp {μ:Ai} {v:Value} (h:flat v=true):AM μ v v:=St μ 8 v h
def Gf (x:Value) (y:Nat):Option Nat:=
 match x with
 | .int _ (.ofNat k)=>bif Nat.ble k y then some k else none
 | _=>none
def Dl (len cap:Nat) (low high max:Option Value):Option (Nat × Nat × Nat):=
 (match max with | some v=>Gf v cap | none=>some cap).bind fun m=>
 (match high,max with | some v,_=>Gf v m | none,none=>some len | none,some _=>none).bind fun h=>
 (match low with | some v=>Gf v h | none=>some 0).bind fun l=>some (l,h,m)
def IT (place:Nat->Option (Nat × Nat)) (cells:List Value):List (Nat × Value)->Option (List Value)
 | []=>some cells
 | (i,v)::rest=>
  match place i with
  | none=>none
  | some (off,size)=>
   let l:=v.cells.toList
   bif Nat.beq l.length size&&Nat.ble (off+l.length) cells.length then IT place (BX cells off l) rest else none
def GO (P:Program) (t:TypeId):Option (List Value):=
 match P.info? t with
 | some i=>match i.zero with
  | some z=>bif flat z then some z.cells.toList else none
  | none=>none
 | none=>none
def DK (P:Program) (t:TypeId):Option Nat:=(P.info? t).map (·.size)
def KP (P:Program) (fields:Array Field):Option (List (Nat × Nat)):=
 fields.toList.mapM (fun f=>(P.info? f.type).map fun i=>(f.offset,i.size))
def TG (P:Program) (t:TypeId) (parts:List (Nat × Value)):Option Value:=
 match GO P t,P.underlying t with
 | some z,some (.array _ e)=>match DK P e with
  | some n=>(IT (fun i=>some (i * n,n)) z parts).map fun l=> .agg ⟨l⟩
  | none=>none
 | some z,some (.struct fields)=>match KP P fields with
  | some pl=>(IT (fun i=>pl[i]?) z parts).map fun l=> .agg ⟨l⟩
  | none=>none
 | _,_=>none
def Df (z:List Value) (n:Nat):List Value:=(List.range n).map fun i=>z.getD (i % z.length) default
def Ff (P:Program) (t:TypeId) (len:Nat) (parts:List (Nat × Value)) (H:AA):Option (Value × AA):=
 match P.underlying t with
 | some (.slice e)=>match DK P e,GO P e with
  | some n,some z=>
   bif Nat.beq (len * n) 0 then
    match parts with
    | []=>some (.slice (some ⟨H.next,0,none⟩) len len,H.alloc (.cells [] n false))
    | _=>none
   else bif Nat.ble (len * n) 16777216 then
    (IT (fun i=>some (i * n,n)) (Df z (len * n)) parts).map fun l=>(.slice (some ⟨H.next,0,none⟩) len len,H.alloc (.cells l n false))
   else none
  | _,_=>none
 | _=>none
def Es:TypeDesc->Bool
 | .struct _ | .array _ _=>true
 | _=>false
def Kj (P:Program) (t:TypeId) (a:Value) (H:AA):Option Value:=
 match a with
 | .pointer (some ⟨b,off,none⟩)=>
  match H.get b with
  | some (.cells cs _ _)=>
   match P.underlying t,DK P t with
   | some d,some n=>
    bif Es d then
     let l:=(cs.drop off).take n
     bif Nat.beq l.length n then some (.agg ⟨l⟩)else none
    else cs[off]?
   | _,_=>none
  | _=>none
 | _=>none
def Nx (P:Program) (t:TypeId) (a x:Value) (H:AA):Option AA:=
 match a with
 | .pointer (some ⟨b,off,none⟩)=>
  match H.get b with
  | some (.cells cs e false)=>
   match DK P t with
   | some n=>
    let l:=x.cells.toList
    bif Nat.beq l.length n&&l.all Bh&&Nat.ble (off+l.length) cs.length then some (H.put b (.cells (BX cs off l) e false))else none
   | _=>none
  | _=>none
 | _=>none
section
variable {P:Program} {base:Env} {W0:World} {μ:Ai} {H:AA} {W:World}
theorem Kn {t:TypeId} {n:Nat} (h:DK P t=some n):∃i,P.info? t=some i/\i.size=n:=by
 unfold DK at h;cases hi:P.info? t with
 | none=>simp[hi]at h
 | some i=>simp[hi]at h;exact⟨i,rfl,h⟩
theorem Be {t:TypeId} {n:Nat} (h:DK P t=some n) (w:World):(sizeOf t).run P w= .ok n w:=by
 obtain⟨i,hi,rfl⟩:=Kn h;simp[sizeOf,typeInfo,hi]
theorem Fh {t:TypeId} {l:List Value} (h:GO P t=some l):∃i z,P.info? t=some i/\i.zero=some z/\flat z=true/\z.cells.toList=l:=by
 unfold GO at h;cases hi:P.info? t with
 | none=>simp[hi]at h
 | some i=>
  cases hz:i.zero with
  | none=>simp[hi,hz]at h
  | some z=>
   simp only[hi,hz]at h;cases hf:flat z<;>simp[hf]at h
   exact⟨i,z,rfl,hz,hf,h⟩
theorem Et {t:TypeId} {l:List Value} (h:GO P t=some l) (w:World):∃z,(zeroValue t).run P w= .ok z w/\flat z=true/\z.cells.toList=l:=by
 obtain⟨i,z,hi,hz,hf,hl⟩:=Fh h;exact⟨z,by simp[zeroValue,typeInfo,hi,hz],hf,hl⟩
theorem HQ {v v':Value} (h:AM μ v v') (hok:∀c,v≠ .chan c):BD μ v.cells.toList v'.cells.toList:=by
 cases h with
 | Bn v=>exact absurd rfl (hok _)
 | agg xs xs' hx ex=>
  obtain⟨ys,he,hl⟩:=AM.Cr.1 (.agg xs xs' hx ex);cases he;exact hl
 | bool | int | float | string | GS | CD | GH | nilFunc | nilIface=>first | exact .cons (.bool _) .nil | exact .cons (.int _ _) .nil | exact .cons (.float _ _) .nil | exact .cons (.string _) .nil | exact .cons .GS .nil | exact .cons (.CD _ _) .nil | exact .cons .GH .nil | exact .cons .nilFunc .nil | exact .cons .nilIface .nil
 | ptr b o T h=>exact .cons (.ptr b o T h) .nil
 | slice b o l k k' o' T h hc ho=>exact .cons (.slice b o l k k' o' T h hc ho) .nil
 | Gt b o i T h=>exact .cons (.Gt b o i T h) .nil
 | Bw b i l k k' o' T h hc ho hr=>exact .cons (.Bw b i l k k' o' T h hc ho hr) .nil
 | C8 b i k T a h hc=>exact .cons (.C8 b i k T a h hc) .nil
 | Cf b j l k k' o' T M h hm hc ho hr=>exact .cons (.Cf b j l k k' o' T M h hm hc ho hr) .nil
 | Er b j k T a h hc=>exact .cons (.Er b j k T a h hc) .nil
 | map b T h=>exact .cons (.map b T h) .nil
 | func fn fn' xs xs' ys ys' hf hx ex hy ey=>exact .cons (.func fn fn' xs xs' ys ys' hf hx ex hy ey) .nil
 | iface t v v' h=>exact .cons (.iface t v v' h) .nil
 | tuple xs xs' hx ex=>exact .cons (.tuple xs xs' hx ex) .nil
theorem GG {z:Value} (h:flat z=true):BD μ z.cells.toList z.cells.toList:=
 HQ (Cp h) (by rintro c rfl;simp[flat,Ct]at h)
theorem Hs {t:TypeId} {d:TypeDesc} (h:P.underlying t=some d) (w:World):(isAgg t).run P w= .ok (Es d) w:=by
 cases d<;>simp[isAgg,run_underlying h,Es]
theorem M6 (h:AT base W0 μ H W) {t:TypeId} {a a' v:Value} (ha:AM μ a a') (hi:Kj P t a H=some v):
 ∃v',(Instr.loadAt t a').run P W= .ok v' W/\AM μ v v':=by
 unfold Kj at hi;split at hi
 ·rename_i b off;cases ha with
  | ptr _ _ T hm=>
   split at hi
   ·rename_i cs e ro hb;split at hi
    ·rename_i dd n hd hn;simp only[Instr.loadAt,Instr.sureAddr,Sem.run_bind,Sem.run_pure,Result.andThen_ok,loadVar,Hs hd];cases hagg:Es dd
     ·simp only[hagg,cond_false]at hi;obtain⟨v',h1,h2⟩:=h.cell hb hm hi;exact⟨v',by simp[h1],h2⟩
     ·simp only[hagg,cond_true]at hi;cases hl:Nat.beq ((cs.drop off).take n).length n
      ·rw[hl]at hi;cases hi
      ·simp only[hl,cond_true,Option.some.injEq]at hi;subst hi;have hlen:=Nat.eq_of_beq_eq_true hl;obtain⟨l',r1,r2,_⟩:=h.row hb hm (off:=off) (l:=(cs.drop off).take n) (by rw[hlen]) P;rw[hlen]at r2;refine⟨.agg l'.toArray,?_,AM.Cr.2 ⟨_,rfl,by simpa using r1⟩⟩;simp[Be hn,r2]
    ·cases hi
   ·cases hi
 ·cases hi
theorem Ol (h:AT base W0 μ H W) {t:TypeId} {a a' x x':Value} {H':AA} (ha:AM μ a a') (hx:AM μ x x') (hi:Nx P t a x H=some H'):
 ∃W',(Instr.storeAt t a' x').run P W= .ok () W'/\AT base W0 μ H' W'/\Ak μ H μ H':=by
 unfold Nx at hi;split at hi
 ·rename_i b off;cases ha with
  | ptr _ _ T hm=>
   split at hi
   ·rename_i cs e hb;split at hi
    ·rename_i n hn;cases hc:(Nat.beq x.cells.toList.length n&&x.cells.toList.all Bh&&Nat.ble (off+x.cells.toList.length) cs.length)
     ·simp only[hc,cond_false]at hi;cases hi
     ·simp only[hc,cond_true,Option.some.injEq]at hi;subst hi;simp only[Bool.and_eq_true]at hc;obtain⟨⟨h1,h2⟩,h3⟩:=hc;have hlen:=Nat.eq_of_beq_eq_true h1;have hle:=Nat.le_of_ble_eq_true h3;have hr:=HQ hx (by
       rintro k rfl;simp[Value.cells,Bh]at h2)
      obtain⟨W',r1,r2,r3⟩:=AT.Pc P hm _ _ H W cs off 0 h hb hr h2 (by simpa using hle);refine⟨W',?_,r2,r3⟩;have hsz:x'.cells.size=n:=by
       have:=hr.length;rw[hlen]at this;simpa using this.symm
      simp only[Instr.storeAt,Instr.sureAddr,Sem.run_bind,Sem.run_pure,Result.andThen_ok,storeVar,Be hn];simp only[hsz,ne_eq,not_true_eq_false,if_false];exact r1
    ·cases hi
   ·cases hi
 ·cases hi
inductive Tn (μ:Ai):List (Nat × Value)->List (Nat × Value)->Prop where
 | nil:Tn μ [] []
 | cons {i:Nat} {v v':Value} {l l':List (Nat × Value)} (h:AM μ v v') (hc:∀c,v≠ .chan c) (t:Tn μ l l'):Tn μ ((i,v)::l) ((i,v')::l')
theorem WG (vs:List Value):∀(off k:Nat) (cells:Array Value),off+k+vs.length<=cells.size->
 ((vs.zipIdx k).foldl (fun cs (x:Value × Nat)=>cs.setIfInBounds (off+x.2) x.1) cells).toList=BX cells.toList (off+k) vs:=by
 induction vs with
 | nil=>intro off k cells _;simp[Hy]
 | cons v vs ih=>
  intro off k cells h;simp only[List.length_cons]at h;simp only[List.zipIdx_cons,List.foldl_cons];rw[ih off (k+1) _ (by simp;omega),Fc _ _ _ _ (by simpa using h)];simp[Array.toList_setIfInBounds,Nat.add_assoc]
theorem Kl {place:Nat->Option (Nat × Nat)}:∀(parts parts':List (Nat × Value)) (cells:List Value) (cells':Array Value) (r:List Value),Tn μ parts parts'->BD μ cells cells'.toList->IT place cells parts=some r->
 ∃r',Instr.fill place cells' parts'=some r'/\BD μ r r'.toList:=by
 intro parts;induction parts with
 | nil=>
  intro parts' cells cells' r hp hc hi;cases hp
  simp[IT]at hi;subst hi
  exact⟨cells',rfl,hc⟩
 | cons p parts ih=>
  intro parts' cells cells' r hp hc hi;cases hp with
  | @cons i v v' _ l' hv hch ht=>
   simp only[IT]at hi;cases hpl:place i with
   | none=>simp[hpl]at hi
   | some os=>
    obtain⟨off,size⟩:=os;simp only[hpl]at hi;cases hcnd:(Nat.beq v.cells.toList.length size&&Nat.ble (off+v.cells.toList.length) cells.length)
    ·simp only[hcnd,cond_false]at hi;cases hi
    ·simp only[hcnd,cond_true]at hi;simp only[Bool.and_eq_true]at hcnd;have h1:=Nat.eq_of_beq_eq_true hcnd.1;have h2:=Nat.le_of_ble_eq_true hcnd.2;have hr:=HQ hv hch;have hl1:v'.cells.size=size:=by have:=hr.length;rw[h1]at this;simpa using this.symm
     have hl2:off+v'.cells.size<=cells'.size:=by have:=hc.length;rw[h1]at h2;simp at this;omega
     have hsp:BD μ (BX cells off v.cells.toList) ((v'.cells.toList.zipIdx 0).foldl (fun cs (x:Value × Nat)=>cs.setIfInBounds (off+x.2) x.1) cells').toList:=by
      rw[WG _ _ _ _ (by simpa using hl2)];unfold BX;rw[hr.length];exact(hc.take _).append (hr.append (hc.drop _))
     obtain⟨r',e1,e2⟩:=ih l' _ _ r ht hsp hi;refine⟨r',?_,e2⟩;simp only[Instr.fill,hpl];have hno:¬(v'.cells.size≠size||off+v'.cells.size > cells'.size)=true:=by
      simp[hl1];omega
     simp only[hno];rw[<-e1]
     congr 1
     rw[<-Array.foldl_toList];simp[Array.toList_zipIdx]
theorem V1 {t:TypeId} {parts parts':List (Nat × Value)} {v:Value} (hp:Tn μ parts parts') (hi:TG P t parts=some v) (ps:Array (Nat × Value)) (hps:ps.toList=parts'):
 ∃v',(Instr.build t ps).run P W= .ok v' W/\AM μ v v':=by
 unfold TG at hi;split at hi
 ·rename_i z _ e hz hu;obtain⟨i,zz,h1,h2,h3,h4⟩:=Fh hz;split at hi
  ·rename_i n hn;obtain⟨ie,h5,rfl⟩:=Kn hn;cases hf:IT (fun i=>some (i * ie.size,ie.size)) z parts with
   | none=>simp[hf]at hi
   | some r=>
    simp only[hf,Option.map_some,Option.some.injEq]at hi;subst hi;obtain⟨r',e1,e2⟩:=Kl parts parts' z zz.cells r hp (by rw[<-h4];exact GG h3) hf;refine⟨.agg r',run_build W t ps r' ?_,AM.Cr.2 ⟨_,rfl,e2⟩⟩;rw[hps];simp[Program.built,h1,hu,h2,h5,e1]
  ·cases hi
 ·rename_i z fields hz hu;obtain⟨i,zz,h1,h2,h3,h4⟩:=Fh hz;split at hi
  ·rename_i pl hpl;cases hf:IT (fun i=>pl[i]?) z parts with
   | none=>simp[hf]at hi
   | some r=>
    simp only[hf,Option.map_some,Option.some.injEq]at hi;subst hi;obtain⟨r',e1,e2⟩:=Kl parts parts' z zz.cells r hp (by rw[<-h4];exact GG h3) hf;refine⟨.agg r',run_build W t ps r' ?_,AM.Cr.2 ⟨_,rfl,e2⟩⟩;rw[hps];unfold KP at hpl;simp[Program.built,h1,hu,h2,hpl,e1]
  ·cases hi
 ·cases hi
theorem G8 {z:Value} {l:List Value} (hf:flat z=true) (hl:z.cells.toList=l) (n:Nat):
 BD μ (Df l n) (((Array.range n).map (z.cells[· % z.cells.size]!)).toList):=by
 subst hl;have hz:BD μ z.cells.toList z.cells.toList:=GG hf;have hd:AM μ (default:Value) default:= .bool _;simp only[Df,Array.toList_map,Array.toList_range];refine BD.map _ _ _ fun i _=>?_
 have:z.cells[i % z.cells.size]! = z.cells.toList.getD (i % z.cells.toList.length) default:=by
  rw[getElem!_def,List.getD,Array.getElem?_toList];simp only[Array.length_toList];cases z.cells[i % z.cells.size]?<;>rfl
 rw[this];rcases Nat.lt_or_ge (i % z.cells.toList.length) z.cells.toList.length with hlt | hge
 ·simp only[List.getD,List.getElem?_eq_getElem hlt,Option.getD_some];exact hz.idx _ hlt hlt
 ·simp only[List.getD,List.getElem?_eq_none hge,Option.getD_none];exact hd
theorem DN {l:List Value} {c:Array Value} (k e:Nat) (t:TypeId) (h:BD μ l c.toList):Cs μ ⟨k,0,c.size,e⟩ (.cells l e false) (.cells c t):=by
 refine .cells ⟨k,0,c.size,e⟩ l e false c t 0 0 rfl ?_ (by simp) (fun _ i _=>by omega);have:=h.length;rw[List.drop_zero,List.take_of_length_le (by omega)];exact h
theorem JF (T:B7) (b:Nat) (hd:T.d=0):AM (μ.ext b T) (.pointer (some ⟨b,0,none⟩)) (.pointer (some ⟨T.c,0,none⟩)):=by
 have:=AM.ptr (μ:=μ.ext b T) b 0 T (Ai.Av _ _ _);rw[hd]at this;exact this
theorem Dd (T:B7) (b:Nat) (hd:T.d=0) (n c c':Nat) (hc:Ho T 0 n c c'):AM (μ.ext b T) (.slice (some ⟨b,0,none⟩) n c) (.slice (some ⟨T.c,0,none⟩) n c'):=
 .slice b 0 n c c' 0 T (Ai.Av _ _ _) hc (.inl (by omega))
theorem NQ (h:AT base W0 μ H W) {t:TypeId} {len:Nat} {parts parts':List (Nat × Value)} {v:Value} {H':AA} (hp:Tn μ parts parts') (hi:Ff P t len parts H=some (v,H')) (ps:Array (Nat × Value)) (hps:ps.toList=parts') (hcap:len < AF):
 ∃μ' v' W',(Instr.buildSlice t len ps).run P W= .ok v' W'/\AT base W0 μ' H' W'/\AM μ' v v'/\Ak μ H μ' H':=by
 unfold Ff at hi;split at hi
 ·rename_i e hu;split at hi
  ·rename_i n z hn hz;obtain⟨ie,h5,rfl⟩:=Kn hn;obtain⟨i,zz,h1,h2,h3,h4⟩:=Fh hz;rw[h5]at h1;cases h1
   cases hz0:Nat.beq (len * ie.size) 0
   case true=>
    simp only[hz0,cond_true]at hi;split at hi
    ·cases hi
     cases hp
     have hz0:=Nat.eq_of_beq_eq_true hz0;have hrun:(Instr.buildSlice t len ps).run P W= .ok (.slice (some ⟨W.heap.size,0,none⟩) len len) (W.alloc (.cells #[] e)):=by
      have hr0:Array.range 0=#[]:=rfl;simp[Instr.buildSlice,run_underlying hu,sizeOf,typeInfo,h5,hz0,newRow,hps,hr0,Instr.fill]
     obtain⟨g1,g2⟩:=h.alloc rfl (DN (l:=[]) (c:=#[]) W.heap.size ie.size e .nil);exact⟨_,_,_,hrun,g1,Dd _ _ rfl len len len (.inl ⟨hcap,rfl⟩),g2⟩
    ·cases hi
   simp only[hz0,cond_false]at hi;cases hcnd:(Nat.ble (len * ie.size) 16777216)
   ·simp only[hcnd,cond_false]at hi;cases hi
   ·simp only[hcnd,cond_true]at hi;have c1:=Nat.le_of_ble_eq_true hcnd;have c2:¬len * ie.size=0:=by intro e;rw[e]at hz0;exact absurd hz0 (by decide)
    cases hf:IT (fun i=>some (i * ie.size,ie.size)) (Df z (len * ie.size)) parts with
    | none=>simp[hf]at hi
    | some r=>
     simp only[hf,Option.map_some,Option.some.injEq,Prod.mk.injEq]at hi;obtain⟨rfl,rfl⟩:=hi;obtain⟨r',e1,e2⟩:=Kl parts parts' _ _ r hp (G8 h3 h4 (len * ie.size)) hf;have hrun:(Instr.buildSlice t len ps).run P W= .ok (.slice (some ⟨W.heap.size,0,none⟩) len len) (W.alloc (.cells r' e)):=by
      rw[<-hps]at e1;have hsmall:¬len * ie.size > 2 ^ 24:=by omega
      simp[Instr.buildSlice,run_underlying hu,sizeOf,typeInfo,zeroValue,h5,h2,hsmall,c2,e1,newRow]
     obtain⟨g1,g2⟩:=h.alloc rfl (DN W.heap.size ie.size e e2);exact⟨_,_,_,hrun,g1,Dd _ _ rfl len len len (.inl ⟨hcap,rfl⟩),g2⟩
  ·cases hi
 ·cases hi
end
section
variable {P:Program} {base:Env} {W0:World} {μ:Ai} {H:AA} {W:World}
inductive EF (μ:Ai):Option Value->Option Value->Prop where
 | none:EF μ none none
 | some {v v':Value} (h:AM μ v v'):EF μ (some v) (some v')
theorem KD {x:Value} {y k:Nat} (h:Gf x y=some k):∃kd,x= .int kd (Int.ofNat k)/\k<=y:=by
 unfold Gf at h;split at h
 ·rename_i kd n;cases hb:Nat.ble n y<;>simp[hb]at h
  subst h;exact⟨kd,rfl,Nat.le_of_ble_eq_true hb⟩
 ·cases h
theorem CU {x x':Value} {y y' k:Nat} (hx:AM μ x x') (h:Gf x y=some k) (hy:y<=y') (code:BoundsCode):(Instr.sliceBound x' y' code).run P W= .ok k W:=by
 obtain⟨kd,rfl,hk⟩:=KD h;cases hx
 have:(0:Int)<=Int.ofNat k/\Int.ofNat k<=(y':Int):=⟨by simp,by have:=Int.ofNat_le.2 (Nat.le_trans hk hy);simpa using this⟩;simp only[Instr.sliceBound,asIntOf,Sem.run_bind,Sem.run_pure,Result.andThen_ok,if_pos this];simp
theorem GQ {len cap cap' l h m:Nat} {lo lo' hi hi' mx mx':Option Value} (isS:Bool) (hlo:EF μ lo lo') (hhi:EF μ hi hi') (hmx:EF μ mx mx') (hb:Dl len cap lo hi mx=some (l,h,m)) (hc:cap<=cap'):
 ∃m',(Instr.sliceBounds isS len cap' lo' hi' mx').run P W= .ok (l,h,m') W/\l<=h/\((mx.isSome=true/\m'=m/\m<=cap)∨(mx=none/\m'=cap'/\m=cap))/\(h<=m∨(hi=none/\h=len)):=by
 unfold Dl at hb;cases hmx with
 | none=>
  simp only[Option.bind_some]at hb;cases hhi with
  | none=>
   simp only[Option.bind_some]at hb;cases hlo with
   | none=>
    simp only[Option.bind_some,Option.some.injEq,Prod.mk.injEq]at hb;obtain⟨rfl,rfl,rfl⟩:=hb;exact⟨cap',by simp[Instr.sliceBounds],Nat.zero_le _,.inr ⟨rfl,rfl,rfl⟩,.inr ⟨rfl,rfl⟩⟩
   | some hv=>
    rename_i v v';cases hbd:Gf v len with
    | none=>simp[hbd]at hb
    | some k=>
     simp only[hbd,Option.bind_some,Option.some.injEq,Prod.mk.injEq]at hb;obtain⟨rfl,rfl,rfl⟩:=hb;have:=KD hbd;refine⟨cap',?_,by obtain⟨_,_,h⟩:=this;exact h,.inr ⟨rfl,rfl,rfl⟩,.inr ⟨rfl,rfl⟩⟩;simp[Instr.sliceBounds,CU hv hbd (Nat.le_refl _)]
  | some hw=>
   rename_i u u';simp only at hb;cases hbu:Gf u cap with
   | none=>simp[hbu]at hb
   | some k1=>
    have hk1:k1<=cap:=by obtain⟨_,_,h⟩:=KD hbu;exact h
    simp only[hbu,Option.bind_some]at hb;cases hlo with
    | none=>
     simp only[Option.bind_some,Option.some.injEq,Prod.mk.injEq]at hb;obtain⟨rfl,rfl,rfl⟩:=hb;refine⟨cap',?_,Nat.zero_le _,.inr ⟨rfl,rfl,rfl⟩,.inl hk1⟩;simp[Instr.sliceBounds,CU hw hbu hc]
    | some hv=>
     rename_i v v';cases hbd:Gf v k1 with
     | none=>simp[hbd]at hb
     | some k=>
      simp only[hbd,Option.bind_some,Option.some.injEq,Prod.mk.injEq]at hb;obtain⟨rfl,rfl,rfl⟩:=hb;have:=KD hbd;refine⟨cap',?_,by obtain⟨_,_,h⟩:=this;exact h,.inr ⟨rfl,rfl,rfl⟩,.inl hk1⟩;simp[Instr.sliceBounds,CU hw hbu hc,CU hv hbd (Nat.le_refl _)]
 | some hx=>
  rename_i x x';cases hbx:Gf x cap with
  | none=>simp[hbx]at hb
  | some k2=>
   have hk2:k2<=cap:=by obtain⟨_,_,h⟩:=KD hbx;exact h
   simp only[hbx,Option.bind_some]at hb;cases hhi with
   | none=>simp at hb
   | some hw=>
    rename_i u u';simp only at hb;cases hbu:Gf u k2 with
    | none=>simp[hbu]at hb
    | some k1=>
     have hk1:k1<=k2:=by obtain⟨_,_,h⟩:=KD hbu;exact h
     simp only[hbu,Option.bind_some]at hb;cases hlo with
     | none=>
      simp only[Option.bind_some,Option.some.injEq,Prod.mk.injEq]at hb;obtain⟨rfl,rfl,rfl⟩:=hb;refine⟨k2,?_,Nat.zero_le _,.inl ⟨rfl,rfl,hk2⟩,.inl hk1⟩;simp[Instr.sliceBounds,CU hx hbx hc,CU hw hbu (Nat.le_refl _)]
     | some hv=>
      rename_i v v';cases hbd:Gf v k1 with
      | none=>simp[hbd]at hb
      | some k=>
       simp only[hbd,Option.bind_some,Option.some.injEq,Prod.mk.injEq]at hb;obtain⟨rfl,rfl,rfl⟩:=hb;have:=KD hbd;refine⟨k2,?_,by obtain⟨_,_,h⟩:=this;exact h,.inl ⟨rfl,rfl,hk2⟩,.inl hk1⟩;simp[Instr.sliceBounds,CU hx hbx hc,CU hw hbu (Nat.le_refl _),CU hv hbd (Nat.le_refl _)]
def Gn (sz e b off len cap:Nat) (low high max:Option Value):Option Value:=
 bif Nat.blt cap AF then
  match Dl len cap low high max with
  | some (l,h,m)=>some (.slice (some ⟨b,bif Nat.beq m l then off else off+l * sz,none⟩) (h - l) (m - l))
  | none=>none
 else
  match max,Dl len (cap - AF) low high max with
  | some _,some (l,h,m)=>bif Nat.blt m AF then some (.slice (some ⟨b,bif Nat.beq m l then off else off+l * sz,none⟩) (h - l) (m - l))else none
  | none,some (l,h,_)=>bif Nat.ble l (cap - AF)&&Nat.beq sz e then some (.slice (some ⟨b,off+l * sz,none⟩) (h - l) (AF+(cap - AF - l)))else none
  | _,none=>none
def elemAt (H:AA) (b:Nat):Nat:=
 match H.get b with
 | some (.cells _ e _)=>e
 | _=>0
def Hz (P:Program) (t:TypeId) (x:Value) (low high max:Option Value) (H:AA):Option Value:=
 match P.underlying t,x with
 | some (.array n e),.pointer (some ⟨b,off,none⟩)=>
  match DK P e with
  | some sz=>bif Nat.blt n AF then Gn sz 0 b off n n low high max else none
  | none=>none
 | some .string,.string s=>
  match max,Dl s.size s.size low high none with
  | none,some (l,h,_)=>some (.string (s.extract l h))
  | _,_=>none
 | some (.slice e),.slice none len cap=>
  match DK P e,Dl len cap low high max with
  | some _,some (l,h,m)=>some (.slice none (h - l) (m - l))
  | _,_=>none
 | some (.slice e),.slice (some ⟨b,off,none⟩) len cap=>
  match DK P e with
  | some sz=>bif Nat.blt cap AF then Gn sz 0 b off len cap low high max else
   match H.get b with
   | some (.cells _ e _)=>Gn sz e b off len cap low high max
   | _=>none
  | none=>none
 | _,_=>none
theorem add_eq (c o n:Nat):(⟨c,o,none⟩:Addr).add n=⟨c,o+n,none⟩:=by
 unfold Addr.add;split<;>simp_all
theorem Lp {sz e b off o' len cap cap':Nat} {T:B7} {lo lo' hi hi' mx mx':Option Value} {v:Value} (hlo:EF μ lo lo') (hhi:EF μ hi hi') (hmx:EF μ mx mx') (hm:μ b=some T) (hc:Ho T off len cap cap') (ho:o'=T.d+off∨(len=0/\cap'=0))
 (isS:Bool) (hte:cap < AF∨T.e=e) (hi0:Gn sz e b off len cap lo hi mx=some v):
 ∃l h m',(Instr.sliceBounds isS len cap' lo' hi' mx').run P W= .ok (l,h,m') W/\AM μ v (.slice (some (if m'=l then(⟨T.c,o',none⟩:Addr)else(⟨T.c,o',none⟩:Addr).add (l * sz))) (h - l) (m' - l)):=by
 unfold Gn at hi0;rcases hc with⟨hcx,rfl⟩ | ⟨hcu,hlb,hlen,hroom⟩
 ·have:Nat.blt cap' AF=true:=Nat.ble_eq_true_of_le hcx;simp only[this,cond_true]at hi0;cases hb:Dl len cap' lo hi mx with
  | none=>simp[hb]at hi0
  | some x=>
   obtain⟨l,h,m⟩:=x;simp only[hb,Option.some.injEq]at hi0;subst hi0;obtain⟨m',hrun,hlh,hmm,hhm⟩:=GQ (P:=P) (W:=W) isS hlo hhi hmx hb (Nat.le_refl _);have hm':m'=m:=by rcases hmm with⟨_,h,_⟩ | ⟨_,h1,h2⟩<;>omega
   have hmle:m<=cap':=by rcases hmm with⟨_,_,h⟩ | ⟨_,h1,h2⟩<;>omega
   subst hm';refine⟨l,h,m',hrun,?_⟩
   by_cases e:m'=l
   ·have hbq:Nat.beq m' l=true:=by rw[e];exact Nat.beq_refl _
    simp only[hbq,cond_true,if_pos e];refine .slice b off _ _ _ o' T hm (.inl ⟨by omega,rfl⟩) ?_;rcases ho with ho | ⟨h1,h2⟩
    ·exact .inl ho
    ·refine .inr ⟨?_,by omega⟩;rcases hhm with hh | ⟨_,hh⟩<;>omega
   ·have hbq:Nat.beq m' l=false:=by
     cases hq:Nat.beq m' l
     ·rfl
     ·exact absurd (Nat.eq_of_beq_eq_true hq) e
    simp only[hbq,cond_false,if_neg e,add_eq];refine .slice b _ _ _ _ _ T hm (.inl ⟨by omega,rfl⟩) ?_;rcases ho with ho | ⟨h1,h2⟩
    ·exact .inl (by omega)
    ·exfalso;rcases hhm with hh | ⟨_,hh⟩<;>omega
 ·have:Nat.blt cap AF=false:=by
   cases hq:Nat.blt cap AF
   ·rfl
   ·have:cap < AF:=Nat.le_of_ble_eq_true hq;omega
  simp only[this,cond_false]at hi0;cases hb:Dl len (cap - AF) lo hi mx with
  | none=>cases mx<;>simp[hb]at hi0
  | some x=>
   obtain⟨l,h,m⟩:=x;obtain⟨m',hrun,hlh,hmm,hhm⟩:=GQ (P:=P) (W:=W) isS hlo hhi hmx hb hlb;refine⟨l,h,m',hrun,?_⟩;cases hmx with
   | none=>
    simp only[hb]at hi0;have hm':m'=cap'/\m=cap - AF:=by
     rcases hmm with⟨h,_⟩ | ⟨_,h1,h2⟩
     ·cases h
     ·exact⟨h1,h2⟩
    obtain⟨hm1,hm2⟩:=hm';subst hm1;subst hm2
    cases hle:(Nat.ble l (cap - AF)&&Nat.beq sz e)
    ·simp[hle]at hi0
    ·simp only[hle,cond_true,Option.some.injEq]at hi0;subst hi0;simp only[Bool.and_eq_true]at hle;have hll:=Nat.le_of_ble_eq_true hle.1;have hse:=Nat.eq_of_beq_eq_true hle.2;have hte':T.e=sz:=by rcases hte with hh | hh<;>omega
     have hroom':∀k,k<=m'->off+l * sz+(m' - l) * T.e<=T.r∨m' < l:=by
      intro k _;rcases Nat.lt_or_ge m' l with hh | hh
      ·exact .inr hh
      ·refine .inl ?_;rw[hte']at hroom ⊢;have:l * sz+(m' - l) * sz=m' * sz:=by rw[<-Nat.add_mul];congr 1;omega
       omega
     have hhl:h<=m':=by rcases hhm with hh | ⟨_,hh⟩<;>omega
     by_cases e:m'=l
     ·simp only[if_pos e];refine .slice b _ _ _ _ o' T hm (.inr ⟨by omega,by omega,by omega,by have:=hroom' 0 (by omega);omega,by omega⟩) (.inr ⟨by omega,by omega⟩)
     ·simp only[if_neg e,add_eq];refine .slice b _ _ _ _ _ T hm (.inr ⟨by omega,by omega,by omega,by have:=hroom' 0 (by omega);omega,by omega⟩) ?_;rcases ho with ho | ⟨h1,h2⟩
      ·exact .inl (by omega)
      ·exfalso;omega
   | some hx=>
    simp only[hb]at hi0;cases hlt:Nat.blt m AF
    ·simp[hlt]at hi0
    simp only[hlt,cond_true,Option.some.injEq]at hi0;subst hi0;have hltm:m < AF:=Nat.le_of_ble_eq_true hlt;have hm':m'=m/\m<=cap - AF:=by
     rcases hmm with⟨_,h1,h2⟩ | ⟨h,_⟩
     ·exact⟨h1,h2⟩
     ·cases h
    obtain⟨hm1,hml⟩:=hm';subst hm1
    by_cases e:m'=l
    ·have hbq:Nat.beq m' l=true:=by rw[e];exact Nat.beq_refl _
     simp only[hbq,cond_true,if_pos e];refine .slice b off _ _ _ o' T hm (.inl ⟨by omega,rfl⟩) ?_;rcases ho with ho | ⟨h1,h2⟩
     ·exact .inl ho
     ·refine .inr ⟨?_,by omega⟩;rcases hhm with hh | ⟨_,hh⟩<;>omega
    ·have hbq:Nat.beq m' l=false:=by
      cases hq:Nat.beq m' l
      ·rfl
      ·exact absurd (Nat.eq_of_beq_eq_true hq) e
     simp only[hbq,cond_false,if_neg e,add_eq];refine .slice b _ _ _ _ _ T hm (.inl ⟨by omega,rfl⟩) ?_;rcases ho with ho | ⟨h1,h2⟩
     ·exact .inl (by omega)
     ·exfalso;rcases hhm with hh | ⟨_,hh⟩<;>omega
end
section
variable {P:Program} {base:Env} {W0:World} {μ:Ai} {H:AA} {W:World}
theorem JO (h:AT base W0 μ H W) {t:TypeId} {x x' v:Value} {lo lo' hi hi' mx mx':Option Value} (hx:AM μ x x') (hlo:EF μ lo lo') (hhi:EF μ hi hi') (hmx:EF μ mx mx') (hi0:Hz P t x lo hi mx H=some v):
 ∃v',(Instr.sliceAt t x' lo' hi' mx').run P W= .ok v' W/\AM μ v v':=by
 unfold Hz at hi0;split at hi0
 ·rename_i n e b off hu;cases hx with
  | ptr _ _ T hm=>
   split at hi0
   ·rename_i sz hsz;cases hn:Nat.blt n AF
    ·simp[hn]at hi0
    ·simp only[hn,cond_true]at hi0;have hn':n < AF:=Nat.le_of_ble_eq_true hn;obtain⟨l,hh,m',hrun,hv⟩:=Lp (P:=P) (W:=W) (o':=T.d+off) (cap':=n) hlo hhi hmx hm (.inl ⟨hn',rfl⟩) (.inl rfl) false (.inl hn') hi0;refine⟨_,?_,hv⟩;simp[Instr.sliceAt,run_underlying hu,Instr.sureAddr,hrun,Be hsz]
   ·cases hi0
 ·rename_i s hu;cases hx
  split at hi0
  ·rename_i l hh m hb;cases hi0
   cases hmx
   obtain⟨m',hrun,_,_,_⟩:=GQ (P:=P) (W:=W) false hlo hhi .none hb (Nat.le_refl _);refine⟨_,?_,.string _⟩;simp[Instr.sliceAt,Instr.slice,run_underlying hu,hrun]
  ·cases hi0
 ·rename_i e len cap hu;cases hx
  split at hi0
  ·rename_i sz l hh m hsz hb;cases hi0
   obtain⟨m',hrun,_,hmm,_⟩:=GQ (P:=P) (W:=W) true hlo hhi hmx hb (Nat.le_refl _);have:m'=m:=by rcases hmm with⟨_,h,_⟩ | ⟨_,h1,h2⟩<;>omega
   subst this;refine⟨_,?_,.CD _ _⟩;simp[Instr.sliceAt,Instr.slice,run_underlying hu,hrun,Be hsz]
  ·cases hi0
 ·rename_i e b off len cap hu;cases hx with
  | slice _ _ _ _ cap' o' T hm hc ho=>
   split at hi0
   ·rename_i sz hsz;have fin:∀e',(cap < AF∨T.e=e')->Gn sz e' b off len cap lo hi mx=some v->∃v',(Instr.sliceAt t (.slice (some ⟨T.c,o',none⟩) len cap') lo' hi' mx').run P W= .ok v' W/\AM μ v v':=by
     intro e' he' hs;obtain⟨l,hh,m',hrun,hv⟩:=Lp (P:=P) (W:=W) (o':=o') (cap':=cap') hlo hhi hmx hm hc ho true he' hs;refine⟨_,?_,hv⟩;simp only[Instr.sliceAt,Instr.slice,run_underlying hu,hrun,Be hsz,Sem.run_bind,Result.andThen_ok,Sem.run_pure]
     by_cases e1:m'=l<;>simp[e1]
    cases hn:Nat.blt cap AF
    ·simp only[hn,cond_false]at hi0;split at hi0
     ·rename_i cs ee ro hb;refine fin ee (.inr ?_) hi0;obtain⟨o1,_,hr⟩:=h.obj b _ hb T hm;cases hr with
      | cells _ _ _ a t lo hi he hc hr hf=>exact he.symm
     ·cases hi0
    ·simp only[hn,cond_true]at hi0;exact fin 0 (.inl (Nat.le_of_ble_eq_true hn)) hi0
   ·cases hi0
 ·cases hi0
def Ga (P:Program) (t:TypeId) (len cap:Value) (H:AA):Option (Value × AA):=
 match P.underlying t,len,cap with
 | some (.slice e),.int _ (.ofNat l),.int _ (.ofNat c)=>
  match P.info? e,GO P e with
  | some i,some z=>
   bif Nat.ble l c&&Nat.ble (i.bytes * c) 281474976710656&&Nat.blt c 9223372036854775808 then
    some (.slice (some ⟨H.next,0,none⟩) l c,H.alloc (.cells (Df z (c * i.size)) i.size false))
   else none
  | _,_=>none
 | _,_,_=>none
theorem wrap_i64 {n:Nat} (h:n < 9223372036854775808):IntKind.i64.wrap (Int.ofNat n)=Int.ofNat n:=by
 have h1:(Int.ofNat n)=(n:Int):=rfl;rw[h1];simp only[IntKind.wrap];simp[IntKind.bits,IntKind.signed];omega
theorem Qi:9223372036854775808 < AF:=by unfold AF;decide
theorem Gz {t e:TypeId} {l c:Nat} {k1 k2:IntKind} {i:TypeInfo} {z:List Value} (hu:P.underlying t=some (.slice e)) (hie:P.info? e=some i) (hz:GO P e=some z)
 (hcnd:(Nat.ble l c&&Nat.ble (i.bytes * c) 281474976710656&&Nat.blt c 9223372036854775808)=true):
 ∃o' T,(Instr.makeSlice t (.int k1 (Int.ofNat l)) (.int k2 (Int.ofNat c))).run P W= .ok (.slice (some ⟨W.heap.size,0,none⟩) l c) (W.alloc o')/\(T.c=W.heap.size/\T.d=0)/\Cs μ T (.cells (Df z (c * i.size)) i.size false) o':=by
 obtain⟨i2,zz,h1,h2,h3,h4⟩:=Fh hz;rw[hie]at h1;cases h1
 simp only[Bool.and_eq_true]at hcnd;have c1:=Nat.le_of_ble_eq_true hcnd.1.1;have c2:=Nat.le_of_ble_eq_true hcnd.1.2;have c3:c < 9223372036854775808:=Nat.le_of_ble_eq_true hcnd.2;have hz2:=G8 (μ:=μ) h3 h4 (c * i.size);have w1:=wrap_i64 (n:=l) (by omega);have w2:=wrap_i64 c3;refine⟨.cells ((Array.range (c * i.size)).map (zz.cells[· % zz.cells.size]!)) e,_,?_,⟨rfl,rfl⟩,DN W.heap.size i.size e hz2⟩;have d1:¬((Int.ofNat c < 0||↑i.bytes * Int.ofNat c > (2 ^ 48:Int))=true):=by
  have hb:(i.bytes:Int) * (c:Int)<=281474976710656:=by
   have:=Int.ofNat_le.2 c2;rw[Int.natCast_mul]at this;exact this
  have hp:(2 ^ 48:Int)=281474976710656:=rfl;intro hcon;rw[Bool.or_eq_true]at hcon;rcases hcon with hcon | hcon
  ·have:=of_decide_eq_true hcon;have e:Int.ofNat c=(c:Int):=rfl;omega
  ·have hq:=of_decide_eq_true hcon;rw[hp]at hq;have hq':(i.bytes:Int) * (c:Int) > 281474976710656:=hq;omega
 have d2:¬(Int.ofNat l < 0):=by simp
 have d3:¬(Int.ofNat l > Int.ofNat c):=by simp;omega
 simp only[Instr.makeSlice,run_underlying hu,Sem.run_bind,Result.andThen_ok,asInt,asIntOf,Sem.run_pure,typeInfo,run_program,hie,w1,w2,sizeOf];have d4:((Int.ofNat c < 0||↑i.bytes * Int.ofNat c > (2 ^ 48:Int))||decide (Int.ofNat l < 0)||decide (Int.ofNat l > Int.ofNat c))=false:=by
  rw[Bool.or_eq_false_iff,Bool.or_eq_false_iff];exact⟨⟨Bool.eq_false_iff.2 d1,decide_eq_false d2⟩,decide_eq_false d3⟩
 simp only[d4]
 by_cases hn:c * i.size=0
 ·have hr0:Array.range 0=#[]:=rfl;simp[hn,newRow,hie,hr0]
 ·simp[hn,newRow,zeroValue,typeInfo,hie,h2]
theorem OR (h:AT base W0 μ H W) {t:TypeId} {len len' cap cap' v:Value} {H':AA} (hl:AM μ len len') (hc:AM μ cap cap') (hi:Ga P t len cap H=some (v,H')):
 ∃μ' v' W',(Instr.makeSlice t len' cap').run P W= .ok v' W'/\AT base W0 μ' H' W'/\AM μ' v v'/\Ak μ H μ' H':=by
 unfold Ga at hi;split at hi
 ·rename_i e k1 l k2 c hu;cases hl;cases hc
  split at hi
  ·rename_i i z hie hz;cases hcnd:(Nat.ble l c&&Nat.ble (i.bytes * c) 281474976710656&&Nat.blt c 9223372036854775808)
   ·simp only[hcnd,cond_false]at hi;cases hi
   ·simp only[hcnd,cond_true,Option.some.injEq,Prod.mk.injEq]at hi;obtain⟨rfl,rfl⟩:=hi;obtain⟨o',T,hrun,hT,ho⟩:=Gz (P:=P) (μ:=μ) (W:=W) (k1:=k1) (k2:=k2) hu hie hz hcnd;obtain⟨g1,g2⟩:=h.alloc hT.1 ho;have:=Qi;simp only[Bool.and_eq_true]at hcnd;have c3:c < 9223372036854775808:=Nat.le_of_ble_eq_true hcnd.2;have hs:=Dd (μ:=μ) T H.next hT.2 l c c (.inl ⟨by omega,rfl⟩);rw[hT.1]at hs;exact⟨_,_,_,hrun,g1,hs,g2⟩
  ·cases hi
 ·cases hi
end
section
variable {P:Program} {base:Env} {W0:World} {μ:Ai} {H:AA} {W:World}
def Dg (sz:Nat) (x:Value) (H:AA):Option (Nat × List Value):=
 match x with
 | .slice none n _=>bif Nat.beq n 0 then some (0,[])else none
 | .slice (some ⟨b,off,none⟩) n _=>
  bif Nat.beq (n * sz) 0 then some (n,[])else
  match H.get b with
  | some (.cells cs _ _)=>let l:=(cs.drop off).take (n * sz);bif Nat.beq l.length (n * sz)then some (n,l)else none
  | _=>none
 | .string s=>bif Nat.beq sz 1 then some (s.size,s.data.toList.map fun b=> .int .u8 b.toNat)else none
 | _=>none
theorem FM (h:AT base W0 μ H W) {sz n k:Nat} {x x':Value} {l:List Value} (hx:AM μ x x') (hi:Dg sz x H=some (n,l)) (hk:k<=n):
 (Builtin.lenOf x').run P W= .ok n W/\l.length=n * sz/\∃l',BD μ (l.take (k * sz)) l'/\(Builtin.firstCells sz k x').run P W= .ok l'.toArray W:=by
 unfold Dg at hi;split at hi
 ·rename_i m c;cases hx
  cases hb:Nat.beq m 0
  ·simp[hb]at hi
  ·simp only[hb,cond_true,Option.some.injEq,Prod.mk.injEq]at hi;obtain⟨rfl,rfl⟩:=hi;have:=Nat.eq_of_beq_eq_true hb;subst this;exact⟨rfl,by simp,[],by simpa using BD.nil,rfl⟩
 ·rename_i b off m c;cases hx with
  | slice _ _ _ _ cap' o' T hm hc ho=>
   cases hb:Nat.beq (m * sz) 0
   ·simp only[hb,cond_false]at hi;have hnz:m * sz≠0:=by intro e;rw[e]at hb;cases hb
    split at hi
    ·rename_i cs e ro hget;cases hl:Nat.beq ((cs.drop off).take (m * sz)).length (m * sz)
     ·rw[hl]at hi;cases hi
     ·rw[hl]at hi;simp only[cond_true,Option.some.injEq,Prod.mk.injEq]at hi;obtain⟨rfl,rfl⟩:=hi;have hlen:=Nat.eq_of_beq_eq_true hl;have hoff:o'=T.d+off:=by
       rcases ho with ho | ⟨h1,_⟩
       ·exact ho
       ·subst h1;simp at hnz
      subst hoff;have hkk:k * sz<=m * sz:=Nat.mul_le_mul_right sz hk;have hlk:(((cs.drop off).take (m * sz)).take (k * sz)).length=k * sz:=by rw[List.length_take,hlen];omega
      obtain⟨l',r1,r2,_⟩:=h.row hget hm (off:=off) (l:=((cs.drop off).take (m * sz)).take (k * sz)) (by rw[hlk,List.take_take,Nat.min_eq_left hkk]) P;rw[hlk]at r2;exact⟨rfl,hlen,l',r1,r2⟩
    ·cases hi
   ·simp only[hb,cond_true,Option.some.injEq,Prod.mk.injEq]at hi;obtain⟨rfl,rfl⟩:=hi;have hz:=Nat.eq_of_beq_eq_true hb;have hkk:k * sz<=m * sz:=Nat.mul_le_mul_right sz hk;have hk0:k * sz=0:=by omega
    refine⟨rfl,by simp[hz],[],by simpa using BD.nil,?_⟩;simp[Builtin.firstCells,hk0,loadCells,loadCellsFrom]
 ·rename_i s;cases hx
  cases hb:Nat.beq sz 1
  ·simp[hb]at hi
  ·simp only[hb,cond_true,Option.some.injEq,Prod.mk.injEq]at hi;obtain⟨rfl,rfl⟩:=hi;have:=Nat.eq_of_beq_eq_true hb;subst this;refine⟨rfl,by rw[List.length_map,Nat.mul_one];rfl,(s.extract 0 k).data.toList.map fun b=> .int .u8 b.toNat,?_,by
    show Result.ok ((s.extract 0 k).data.map _) W=_
    congr 1
    apply Array.ext'
    rw[Array.toList_map]⟩
   have:(s.extract 0 k).data.toList=s.data.toList.take k:=by simp[ByteArray.data_extract]
   rw[Nat.mul_one,<-List.map_take,<-this];exact BD.map _ _ _ fun b _=> .int _ _
 ·cases hi
theorem Vo (newLen:Nat):∀(k c:Nat),c < newLen->Builtin.growBy newLen k c<=newLen+newLen / 4+192:=by
 intro k;induction k with
 | zero=>intro c h;simp only[Builtin.growBy];omega
 | succ k ih=>
  intro c h;simp only[Builtin.growBy];rw[if_neg (by omega)];rcases Nat.lt_or_ge (c+(c+768) / 4) newLen with h1 | h1
  ·exact ih _ h1
  ·cases k with
   | zero=>simp only[Builtin.growBy];omega
   | succ k=>simp only[Builtin.growBy];rw[if_pos h1];omega
theorem Js {need cap:Nat} (h:cap < need):Builtin.nextslicecap need cap<=2 * need+192:=by
 unfold Builtin.nextslicecap;split
 ·omega
 ·split
  ·omega
  ·have:=Vo need 4 cap h;omega
theorem Jd {argTypes:Array TypeId} {ty sT xT e:TypeId} {d:TypeDesc} {i:TypeInfo} {bs:Option Addr} {len cap n:Nat} {x:Value} {l:List Value} {w':World}
 (ht:argTypes.toList=[sT,xT]) (hu:P.underlying sT=some (.slice e)) (hux:P.underlying xT=some d) (hd:d= .string∨∃q,d= .slice q) (hi:P.info? e=some i) (hn:(Builtin.lenOf x).run P W= .ok n W) (hc:len+n<=cap)
 (hf:(Builtin.firstCells i.size n x).run P W= .ok l.toArray W) (hst:∀a,bs=some a->(storeCells (a.add (len * i.size)) l).run P W= .ok () w') (hno:bs=none->w'=W):
 (Builtin.append_ argTypes ty #[.slice bs len cap,x]).run P W= .ok (.slice bs (len+n) cap) w':=by
 obtain rfl:argTypes=#[sT,xT]:=by rw[<-Array.toList_inj];simpa using ht
 cases bs with
 | none=>
  obtain rfl:=hno rfl;rcases hd with rfl | ⟨q,rfl⟩<;>simp[Builtin.append_,run_underlying hu,run_underlying hux,sizeOf,typeInfo,hi,hn,hc,hf]
 | some a=>
  have hst:=hst a rfl;rcases hd with rfl | ⟨q,rfl⟩<;>simp[Builtin.append_,run_underlying hu,run_underlying hux,sizeOf,typeInfo,hi,hn,hc,hf,hst]
theorem HL {argTypes:Array TypeId} {ty sT xT e:TypeId} {d:TypeDesc} {i:TypeInfo} {bs:Option Addr} {len cap n:Nat} {x z:Value} {l lo:List Value}
 (ht:argTypes.toList=[sT,xT]) (hu:P.underlying sT=some (.slice e)) (hux:P.underlying xT=some d) (hd:d= .string∨∃q,d= .slice q) (hi:P.info? e=some i) (hz:i.zero=some z) (hn:(Builtin.lenOf x).run P W= .ok n W) (hc:¬len+n<=cap)
 (hb:(2 * (len+n)+192) * i.bytes<=281474976710656) (hneed:len+n<=4611686018427387904)
 (hf:(Builtin.firstCells i.size n x).run P W.drew= .ok l.toArray W.drew) (hfo:(Builtin.firstCells i.size len (.slice bs len cap)).run P W.drew= .ok lo.toArray W.drew):
 ∃newCap,len+n<=newCap/\newCap<=9223372036854775807/\(Builtin.append_ argTypes ty #[.slice bs len cap,x]).run P W= .ok (.slice (some ⟨W.heap.size,0,none⟩) (len+n) newCap)
  (W.drew.alloc (.cells (lo.toArray++l.toArray++Builtin.zeroCells z.cells (newCap - (len+n))) e)):=by
 obtain rfl:argTypes=#[sT,xT]:=by rw[<-Array.toList_inj];simpa using ht
 have hnc:=Js (need:=len+n) (cap:=cap) (by omega);have h48:¬(281474976710656 < Builtin.nextslicecap (len+n) cap * i.bytes):=by
  have:=Nat.mul_le_mul_right i.bytes hnc;omega
 have h63:¬(9223372036854775807 < ((len:Int)+(n:Int))):=by omega
 refine⟨grownCap W (len+n) cap e,by simp[grownCap,Question.cut],by simp only[grownCap,Question.cut];have:=Nat.mod_lt (W.tape W.drawn (.appendCap (len+n) cap e)) (y:=2 ^ 63 - (len+n)) (by omega);omega,?_⟩;rcases hd with rfl | ⟨q,rfl⟩<;>
  (simp[Builtin.append_,run_underlying hu,run_underlying hux,sizeOf,typeInfo,zeroValue,hi,hz,hn,hc,h63,h48,Question.forced,hf,hfo,newRow,grownCap]
   congr 2
   apply Array.ext'
   simp[List.append_assoc])
def Eo (sz len n cap:Nat) (a:Option Addr) (new:List Value) (H:AA):Option (Value × AA):=
 match a with
 | some ⟨b,off,none⟩=>
  match H.get b with
  | some (.cells cs e false)=>
   bif Nat.ble (off+len * sz+new.length) cs.length then some (.slice a (len+n) cap,H.put b (.cells (BX cs (off+len * sz) new) e false))else none
  | _=>none
 | _=>none
def KM (sz bytes len n:Nat) (a:Value) (new:List Value) (H:AA):Option (Value × AA):=
 match Dg sz a H with
 | some (_,C2)=>
  bif Nat.ble ((2 * (len+n)+192) * bytes) 281474976710656&&Nat.ble (len+n) 4611686018427387904 then
   some (.slice (some ⟨H.next,0,none⟩) (len+n) (AF+(len+n)),H.alloc (.cells (C2++new) sz false))
  else none
 | none=>none
def Dn (sz bytes len n:Nat) (s:Value) (new:List Value) (H:AA):Option (Value × AA):=
 match s with
 | .slice (some ⟨b,off,none⟩) _ _=>
  match H.get b with
  | some (.cells cs e false)=>
   let C2:=(cs.drop off).take (len * sz)
   bif Nat.beq C2.length (len * sz)&&Nat.beq e sz&&Nat.ble ((2 * (len+n)+192) * bytes) 281474976710656&&Nat.ble (len+n) 4611686018427387904 then
    some (.slice (some ⟨H.next,0,none⟩) (len+n) (AF+(len+n)),(H.del b).alloc (.cells (C2++new) sz false))
   else none
  | _=>none
 | _=>none
def Gv (sz bytes:Nat) (s:Value) (n:Nat) (new:List Value) (H:AA):Option (Value × AA):=
 match s with
 | .slice a len cap=>
  bif Nat.beq n 0 then(bif Nat.ble len cap then some (s,H)else none)
  else bif Nat.blt cap AF then
   bif Nat.ble (len+n) cap then Eo sz len n cap a new H else KM sz bytes len n s new H
  else bif Nat.ble (len+n) (cap - AF)then Eo sz len n cap a new H
  else Dn sz bytes len n s new H
 | _=>none
def Cv:Option TypeDesc->Bool
 | some .string=>true
 | some (.slice _)=>true
 | _=>false
def TW:Option TypeDesc->Bool
 | some (.int _)=>true
 | _=>false
def dM (z:List Value) (bytes:Nat) (x:Value):Option (Nat × List Value):=
 match x with
 | .int _ (.ofNat n)=>bif Nat.ble (n * bytes) 281474976710656&&Nat.ble n 9223372036854775807 then some (n,Df z (n * z.length))else none
 | _=>none
def PR (P:Program) (argTypes:Array TypeId) (args:List Value) (H:AA):Option (Value × AA):=
 match argTypes.toList,args with
 | [sT,xT],[s,x]=>
  match P.underlying sT with
  | some (.slice e)=>
   match P.info? e,GO P e with
   | some i,some z=>
    bif TW (P.underlying xT)then
     match dM z i.bytes x with
     | some (n,new)=>bif new.all Bh&&Nat.beq z.length i.size then Gv i.size i.bytes s n new H else none
     | none=>none
    else
    match Dg i.size x H with
    | some (n,new)=>
     bif Cv (P.underlying xT)&&new.all Bh&&Nat.beq z.length i.size then Gv i.size i.bytes s n new H else none
    | none=>none
   | _,_=>none
  | _=>none
 | _,_=>none
theorem IX (P:Program) (c:Nat) (t:TypeId) (fz:Nat × Nat):∀(l:List Value) (k o:Nat) (a:Array Value) (w:World),w.heap[c]? = some (.cells a t fz)->o+k+l.length<=a.size->(∀i,i < a.size->¬(fz.1<=i/\i < fz.2))->(∀v∈l,v.oneCell'=true)->
 ∃w' a',(storeCells ⟨c,o,none⟩ l k).run P w= .ok () w'/\w'.heap[c]? = some (.cells a' t fz)/\a'.toList=BX a.toList (o+k) l/\w'.heap.size=w.heap.size/\(∀i,i≠c->w'.heap[i]? = w.heap[i]?)/\w'.output=w.output/\w'.os=w.os:=by
 intro l;induction l with
 | nil=>intro k o a w hw _ _ _;exact⟨w,a,rfl,hw,by rw[Hy],rfl,fun _ _=>rfl,rfl,rfl⟩
 | cons v l ih=>
  intro k o a w hw hlen hf h1;simp only[List.length_cons]at hlen;have hadd:(⟨c,o,none⟩:Addr).add k=⟨c,o+k,none⟩:=add_eq c o k;have hcell:w.cell? ⟨c,o+k,none⟩=some (a[o+k]'(by omega)):=by
   simp only[World.cell?,hw];simp
  have hfz:w.frozen? ⟨c,o+k,none⟩=false:=by
   have:=hf (o+k) (by omega);simp only[World.frozen?,hw];simp only[Bool.and_eq_false_iff,decide_eq_false_iff_not];omega
  have hst:(store ((⟨c,o,none⟩:Addr).add k) v).run P w= .ok () (w.setCell ⟨c,o+k,none⟩ v):=by
   rw[hadd,run_store P w _ v _ (h1 v (by simp))];simp[hcell,hfz]
  have hw1:(w.setCell ⟨c,o+k,none⟩ v).heap[c]? = some (.cells (a.setIfInBounds (o+k) v) t fz):=by
   simp only[World.setCell,Array.getElem?_modify,if_true,hw];rfl
  obtain⟨w',a',r1,r2,r3,r4,r5,r6,r7⟩:=ih (k+1) o (a.setIfInBounds (o+k) v) (w.setCell ⟨c,o+k,none⟩ v) hw1 (by simp;omega) (by simpa using hf) (fun x hx=>h1 x (by simp[hx]));refine⟨w',a',?_,r2,?_,?_,?_,r6,r7⟩
  ·simp only[storeCells,Sem.run_bind,hst,Result.andThen_ok,r1]
  ·rw[r3,Fc _ _ _ _ (by simp;omega),Array.toList_setIfInBounds];rfl
  ·rw[r4];simp
  ·intro i hi;rw[r5 i hi];simp only[World.setCell,Array.getElem?_modify];rw[if_neg (Ne.symm hi)]
theorem FH {o:Option TypeDesc} (h:Cv o=true):∃d,o=some d/\(d= .string∨∃q,d= .slice q):=by
 unfold Cv at h;split at h
 ·exact⟨_,rfl,.inl rfl⟩
 ·exact⟨_,rfl,.inr ⟨_,rfl⟩⟩
 ·cases h
theorem EG (z:Array Value) (n:Nat):(Builtin.zeroCells z n).size=n * z.size:=by simp[Builtin.zeroCells]
structure J5 (P:Program) (μ:Ai) (W:World) (argTypes:Array TypeId) (ty e:TypeId) (i:TypeInfo) (zz x':Value) (n:Nat) (new:List Value):Prop where
 jR:∃new',BD μ new new'/\∀(bs:Option Addr) (len cap:Nat) (w':World),len+n<=cap->(∀a,bs=some a->(storeCells (a.add (len * i.size)) new').run P W= .ok () w')->(bs=none->w'=W)->
  (Builtin.append_ argTypes ty #[.slice bs len cap,x']).run P W= .ok (.slice bs (len+n) cap) w'
 Y9:∃new2,BD μ new new2/\∀(bs:Option Addr) (len cap:Nat) (lo:List Value),¬len+n<=cap->(2 * (len+n)+192) * i.bytes<=281474976710656->len+n<=4611686018427387904->
  (Builtin.firstCells i.size len (.slice bs len cap)).run P W.drew= .ok lo.toArray W.drew->∃newCap,len+n<=newCap/\newCap<=9223372036854775807/\(Builtin.append_ argTypes ty #[.slice bs len cap,x']).run P W= .ok (.slice (some ⟨W.heap.size,0,none⟩) (len+n) newCap)
   (W.drew.alloc (.cells (lo.toArray++new2.toArray++Builtin.zeroCells zz.cells (newCap - (len+n))) e))
theorem Jh (h:AT base W0 μ H W) {argTypes:Array TypeId} {ty e:TypeId} {i:TypeInfo} {zz s s' x' v:Value} {n:Nat} {new:List Value} {H':AA} (hs:AM μ s s') (hsrc:J5 P μ W argTypes ty e i zz x' n new) (hzsz:zz.cells.size=i.size)
 (hnl:new.length=n * i.size) (hok:new.all Bh=true) (hcu:∀a len cap,s= .slice a len cap->AF<=cap) {len:Nat} (hlen:∀a m cap,s= .slice a m cap->m=len) (hi:Dn i.size i.bytes len n s new H=some (v,H')):
 ∃μ' v' W',(Builtin.append_ argTypes ty #[s',x']).run P W= .ok v' W'/\AT base W0 μ' H' W'/\AM μ' v v'/\Ak μ H μ' H':=by
 obtain⟨new',hn1,hinR⟩:=hsrc.jR;have hgrow:∀(bs:Option Addr) (len cap':Nat) (C2:List Value) (Hd:AA),AT base W0 μ Hd W->Ak μ H μ Hd->¬len+n<=cap'->(2 * (len+n)+192) * i.bytes<=281474976710656->len+n<=4611686018427387904->C2.length=len * i.size->
  (∃old',BD μ C2 old'/\(Builtin.firstCells i.size len (.slice bs len cap')).run P W.drew= .ok old'.toArray W.drew)->
  ∃μ' v' W',(Builtin.append_ argTypes ty #[.slice bs len cap',x']).run P W= .ok v' W'/\AT base W0 μ' (Hd.alloc (.cells (C2++new) i.size false)) W'/\
   AM μ' (.slice (some ⟨Hd.next,0,none⟩) (len+n) (AF+(len+n))) v'/\Ak μ H μ' (Hd.alloc (.cells (C2++new) i.size false)):=by
  intro bs len cap' C2 Hd hd0 hev hnc hbig hbig2 holen ⟨old',o1,o2⟩;obtain⟨new2,m1,hgr⟩:=hsrc.Y9;obtain⟨newCap,g1,g1b,g2⟩:=hgr bs len cap' old' hnc hbig hbig2 o2;have hal:=(hd0.drawn (W.drawn+1)).alloc (T:=⟨W.heap.size,0,newCap * i.size,i.size⟩) (o:= .cells (C2++new) i.size false) (o':= .cells (old'.toArray++new2.toArray++Builtin.zeroCells zz.cells (newCap - (len+n))) e) rfl ?_
  ·refine⟨_,_,_,g2,hal.1,Dd _ _ rfl _ _ _ (.inr ⟨by omega,by omega,g1,?_,.inr g1b⟩),hev.trans hal.2⟩;show 0+newCap * i.size<=newCap * i.size;omega
  ·have e1:=o1.length;have e2:=m1.length;refine .cells ⟨W.heap.size,0,newCap * i.size,i.size⟩ _ _ false _ e 0 0 rfl ?_ ?_ (fun _ j _=>by omega)
   ·simp only[List.drop_zero,Array.toList_append,List.append_assoc];rw[<-List.append_assoc,List.take_append_of_le_length (by simp;omega),List.take_of_length_le (by simp;omega)];exact o1.append m1
   ·simp only[Array.size_append,List.size_toArray,EG,hzsz,Nat.zero_add];rw[<-e1,<-e2,holen,hnl,<-Nat.add_mul,<-Nat.add_mul]
    congr 1
    omega
 unfold Dn at hi;split at hi
 ·rename_i b off len2 cap;have e9:=(hlen _ _ _ rfl).symm;subst e9;have hcapU:AF<=cap:=hcu _ _ _ rfl;split at hi
  ·rename_i cs ee hget;cases hbb:(Nat.beq ((cs.drop off).take (len * i.size)).length (len * i.size)&&Nat.beq ee i.size&&Nat.ble ((2 * (len+n)+192) * i.bytes) 281474976710656&&Nat.ble (len+n) 4611686018427387904)
   ·simp only[hbb,cond_false]at hi;cases hi
   ·simp only[hbb,cond_true,Option.some.injEq,Prod.mk.injEq]at hi;obtain⟨rfl,rfl⟩:=hi;simp only[Bool.and_eq_true]at hbb;obtain⟨⟨⟨b1,b2⟩,b3⟩,b4⟩:=hbb;have b1:=Nat.eq_of_beq_eq_true b1;have b2:=Nat.eq_of_beq_eq_true b2;have b3:=Nat.le_of_ble_eq_true b3;have b4:=Nat.le_of_ble_eq_true b4;subst b2;cases hs with
    | slice _ _ _ _ cap' o' T hm hcr ho=>
     have hcr':cap - AF<=cap'/\len<=cap'/\off+cap' * T.e<=T.r/\(T.e=1∨cap'<=9223372036854775807):=by
      rcases hcr with⟨c1,c2⟩ | ⟨c1,c2,c3,c4,c5⟩
      ·omega
      ·exact⟨c2,c3,c4,c5⟩
     obtain⟨c2,c3,c4,c5⟩:=hcr';obtain⟨hdel,hdelE⟩:=h.del hm
     by_cases hfit:len+n<=cap'
     ·by_cases hoo:o'=T.d+off
      rotate_left
      ·have hdeg:len=0/\cap'=0:=by rcases ho with ho | ho;exact absurd ho hoo;exact ho
       obtain⟨rfl,rfl⟩:=hdeg;have hn00:n=0:=by omega
       subst hn00;have hnew:new=[]:=List.eq_nil_of_length_eq_zero (by omega);subst hnew;have hnew':new'=[]:=List.eq_nil_of_length_eq_zero (by have:=hn1.length;simpa using this.symm);subst hnew';obtain⟨ob,hob,hor⟩:=h.obj b _ hget T hm;cases hor with
       | cells _ _ _ arr t lo hi2 hTe hcl hsz hfz=>
        obtain⟨φ,q⟩:=h.abs;have hmap:=hdel.Hr (T:=⟨T.c,T.d+off,T.r - off,i.size⟩) (o:= .cells ((cs.drop off).take (0 * i.size)++[]) i.size false) (W':=W) (Nat.le_refl _)
         (fun j _ hj=>rfl)
         (fun b' p T' hb' hm' hv=>by
          intro e1;rw[AA.Bb]at hb'
          by_cases e2:b'=b
          ·rw[if_pos e2]at hb';cases hb'
          ·rw[if_neg e2]at hb';exact e2 (h.inj b' b _ _ hb' hget T' T hm' hm hv id e1 (.inr rfl)))
         ⟨φ,⟨fun b' a ro T' h1 h2=>q.rep b' a ro T' (AA.BJ h1).2 h2,fun b' a ro T' h1 h2 b2 o2 T2 h3 h4 h5=>q.ER b' a ro T' (AA.BJ h1).2 h2 b2 o2 T2 (AA.BJ h3).2 h4 h5⟩,
          fun b' a ro h1 ⟨T',h2⟩=>(q.ER b' a ro T' (AA.BJ h1).2 h2 b _ T hget hm (Ne.symm (AA.BJ h1).1)).1 id⟩
         hob (h.own b _ hget rfl T hm id) ?_ rfl rfl
        ·refine⟨_,_,W,hinR _ _ _ _ (Nat.le_refl _) (fun a ha=>?_) (fun ha=>by cases ha),hmap.1,?_,hdelE.trans hmap.2⟩
         ·cases ha
          simp[storeCells]
         ·exact .slice H.next 0 _ _ _ _ ⟨T.c,T.d+off,T.r - off,i.size⟩ (Ai.Av _ _ _) (.inr ⟨by omega,by omega,hfit,by show 0+0 * i.size<=T.r - off;omega,by omega⟩) (.inr ⟨rfl,rfl⟩)
        ·refine .cells ⟨T.c,T.d+off,T.r - off,i.size⟩ _ _ false _ t lo hi2 rfl ?_ ?_ ?_
         ·simp only[Nat.zero_mul,List.take_zero,List.append_nil];exact .nil
         ·show arr.size=T.d+off+(T.r - off);simp only[Nat.zero_mul,Nat.add_zero]at c4;omega
         ·intro _ j hj;exact hfz rfl j hj
      subst hoo;obtain⟨ob,hob,hor⟩:=h.obj b _ hget T hm;cases hor with
      | cells _ _ _ arr t lo hi2 hTe hcl hsz hfz=>
       rw[<-hTe]at c4;have hne1:len * i.size+n * i.size<=cap' * i.size:=by rw[<-Nat.add_mul];exact Nat.mul_le_mul_right _ hfit
       have hcslen:=hcl.length;have hn1l:=hn1.length;obtain⟨w',arr',r1,r2,r3,r4,r5,r6,r7⟩:=IX P T.c t (lo,hi2) new' 0 (T.d+off+len * i.size) arr W hob (by omega) (fun j hj=>hfz rfl j (.inl hj)) (fun q hq=>by
        obtain⟨k,hk,rfl⟩:=List.getElem_of_mem hq;have hk2:k < new.length:=by omega
        exact H4 (hn1.idx k hk2 hk) (List.all_eq_true.1 hok _ (List.getElem_mem hk2)))
       obtain⟨φ,q⟩:=h.abs;have hmap:=hdel.Hr (T:=⟨T.c,T.d+off,T.r - off,i.size⟩) (o:= .cells ((cs.drop off).take (len * i.size)++new) i.size false) (W':=w') (by omega)
        (fun j _ hj=>r5 j hj)
        (fun b' p T' hb' hm' hv=>by
         intro e1;rw[AA.Bb]at hb'
         by_cases e2:b'=b
         ·rw[if_pos e2]at hb';cases hb'
         ·rw[if_neg e2]at hb';exact e2 (h.inj b' b _ _ hb' hget T' T hm' hm hv id e1 (.inr rfl)))
        ⟨φ,⟨fun b' a ro T' h1 h2=>q.rep b' a ro T' (AA.BJ h1).2 h2,fun b' a ro T' h1 h2 b2 o2 T2 h3 h4 h5=>q.ER b' a ro T' (AA.BJ h1).2 h2 b2 o2 T2 (AA.BJ h3).2 h4 h5⟩,
         fun b' a ro h1 ⟨T',h2⟩=>(q.ER b' a ro T' (AA.BJ h1).2 h2 b _ T hget hm (Ne.symm (AA.BJ h1).1)).1 id⟩
        r2 (h.own b _ hget rfl T hm id) ?_ r6 r7
       ·refine⟨_,_,w',hinR _ _ _ _ hfit (fun a ha=>?_) (fun ha=>by cases ha),hmap.1,?_,hdelE.trans hmap.2⟩
        ·cases ha
         rw[add_eq];exact r1
        ·exact .slice H.next 0 _ _ _ _ ⟨T.c,T.d+off,T.r - off,i.size⟩ (Ai.Av _ _ _) (.inr ⟨by omega,by omega,hfit,by show 0+cap' * i.size<=T.r - off;omega,by show i.size=1∨_;omega⟩) (.inl rfl)
       ·refine .cells ⟨T.c,T.d+off,T.r - off,i.size⟩ _ _ false _ t lo hi2 rfl ?_ ?_ ?_
        ·have hal:arr.toList.length=arr.size:=by simp
         show BD μ _ (List.take _ (List.drop (T.d+off) arr'.toList));rw[r3,Nat.add_zero];have hold:BD μ ((cs.drop off).take (len * i.size)) ((arr.toList.drop (T.d+off)).take (len * i.size)):=by
          have:=(hcl.drop off).take (len * i.size);rw[List.drop_take,List.drop_drop,List.take_take,Nat.min_eq_left (by rw[List.length_take,List.length_drop]at b1;omega)]at this;exact this
         have hsplit:(BX arr.toList (T.d+off+len * i.size) new').drop (T.d+off)=((arr.toList.drop (T.d+off)).take (len * i.size))++(new'++arr.toList.drop (T.d+off+len * i.size+new'.length)):=by
          unfold BX;rw[List.drop_append_of_le_length (by simp;omega),List.drop_take]
          congr 2
          omega
         have hol:=hold.length;generalize hO:(cs.drop off).take (len * i.size)=O at hold hol b1 ⊢;generalize hO':(arr.toList.drop (T.d+off)).take (len * i.size)=O' at hold hol hsplit;rw[hsplit,<-List.append_assoc,List.take_append_of_le_length (by simp only[List.length_append];omega),List.take_of_length_le (l:=O'++new') (by simp only[List.length_append];omega)];exact hold.append hn1
        ·show arr'.size=T.d+off+(T.r - off);have:arr'.toList.length=arr.size:=by
          rw[r3];unfold BX
          simp only[List.length_append,List.length_take,List.length_drop,Array.length_toList];omega
         rw[Array.length_toList]at this;omega
        ·intro _ j hj;refine hfz rfl j ?_;have hsame:arr'.size=arr.size->(j < arr.size∨(j=arr.size/\i.size≠1)):=fun e=>by rw[<-e];exact hj
         refine hsame ?_;have:arr'.toList.length=arr.size:=by
          rw[r3];unfold BX
          simp only[List.length_append,List.length_take,List.length_drop,Array.length_toList];omega
         rw[Array.length_toList]at this;omega
     ·refine hgrow _ len cap' _ (H.del b) hdel hdelE hfit b3 b4 b1 ?_;have hsrcq:∃q,Dg i.size (.slice (some ⟨b,off,none⟩) len cap) H=some (len,q)/\q=(cs.drop off).take (len * i.size):=by
       unfold Dg;cases hz0:Nat.beq (len * i.size) 0
       ·simp only[hz0,cond_false,hget];rw[show Nat.beq ((cs.drop off).take (len * i.size)).length (len * i.size)=true by rw[b1];exact Nat.beq_refl _];exact⟨_,rfl,rfl⟩
       ·simp only[hz0,cond_true];have hz0:=Nat.eq_of_beq_eq_true hz0;exact⟨[],rfl,by rw[hz0];simp⟩
      obtain⟨q,hq1,hq2⟩:=hsrcq;obtain⟨_,ol,old',o1,o2⟩:=FM (P:=P) (h.drawn (W.drawn+1)) (AM.slice b off len cap cap' o' T hm hcr ho) hq1 (Nat.le_refl len);rw[List.take_of_length_le (by omega),hq2]at o1;exact⟨old',o1,o2⟩
  ·cases hi
 ·cases hi
theorem Fg (h:AT base W0 μ H W) {argTypes:Array TypeId} {ty e:TypeId} {i:TypeInfo} {zz s s' x' v:Value} {n:Nat} {new:List Value} {H':AA} (hs:AM μ s s') (hsrc:J5 P μ W argTypes ty e i zz x' n new) (hzsz:zz.cells.size=i.size)
 (hnl:new.length=n * i.size) (hok:new.all Bh=true) (hi:Gv i.size i.bytes s n new H=some (v,H')):
 ∃μ' v' W',(Builtin.append_ argTypes ty #[s',x']).run P W= .ok v' W'/\AT base W0 μ' H' W'/\AM μ' v v'/\Ak μ H μ' H':=by
 obtain⟨new',hn1,hinR⟩:=hsrc.jR;have hgrow:∀(bs:Option Addr) (len cap':Nat) (C2:List Value) (Hd:AA),AT base W0 μ Hd W->Ak μ H μ Hd->¬len+n<=cap'->(2 * (len+n)+192) * i.bytes<=281474976710656->len+n<=4611686018427387904->C2.length=len * i.size->
  (∃old',BD μ C2 old'/\(Builtin.firstCells i.size len (.slice bs len cap')).run P W.drew= .ok old'.toArray W.drew)->
  ∃μ' v' W',(Builtin.append_ argTypes ty #[.slice bs len cap',x']).run P W= .ok v' W'/\AT base W0 μ' (Hd.alloc (.cells (C2++new) i.size false)) W'/\
   AM μ' (.slice (some ⟨Hd.next,0,none⟩) (len+n) (AF+(len+n))) v'/\Ak μ H μ' (Hd.alloc (.cells (C2++new) i.size false)):=by
  intro bs len cap' C2 Hd hd0 hev hnc hbig hbig2 holen ⟨old',o1,o2⟩;obtain⟨new2,m1,hgr⟩:=hsrc.Y9;obtain⟨newCap,g1,g1b,g2⟩:=hgr bs len cap' old' hnc hbig hbig2 o2;have hal:=(hd0.drawn (W.drawn+1)).alloc (T:=⟨W.heap.size,0,newCap * i.size,i.size⟩) (o:= .cells (C2++new) i.size false) (o':= .cells (old'.toArray++new2.toArray++Builtin.zeroCells zz.cells (newCap - (len+n))) e) rfl ?_
  ·refine⟨_,_,_,g2,hal.1,Dd _ _ rfl _ _ _ (.inr ⟨by omega,by omega,g1,?_,.inr g1b⟩),hev.trans hal.2⟩;show 0+newCap * i.size<=newCap * i.size;omega
  ·have e1:=o1.length;have e2:=m1.length;refine .cells ⟨W.heap.size,0,newCap * i.size,i.size⟩ _ _ false _ e 0 0 rfl ?_ ?_ (fun _ j _=>by omega)
   ·simp only[List.drop_zero,Array.toList_append,List.append_assoc];rw[<-List.append_assoc,List.take_append_of_le_length (by simp;omega),List.take_of_length_le (by simp;omega)];exact o1.append m1
   ·simp only[Array.size_append,List.size_toArray,EG,hzsz,Nat.zero_add];rw[<-e1,<-e2,holen,hnl,<-Nat.add_mul,<-Nat.add_mul]
    congr 1
    omega
 unfold Gv at hi;split at hi
 ·rename_i a len cap;cases hn0:Nat.beq n 0
  ·simp only[hn0,cond_false]at hi;have hnpos:n≠0:=by intro e;rw[e]at hn0;cases hn0
   have hin:∀(cap':Nat),s'= .slice (match s' with | .slice a _ _=>a | _=>none) len cap'->len+n<=cap'->Eo i.size len n cap a new H=some (v,H')->
    ∃μ' v' W',(Builtin.append_ argTypes ty #[s',x']).run P W= .ok v' W'/\AT base W0 μ' H' W'/\AM μ' v v'/\Ak μ H μ' H':=by
    intro cap' hs' hle hin;unfold Eo at hin;split at hin
    ·rename_i b off;cases hs with
     | slice _ _ _ _ cap2 o' T hm hcr ho=>
      have hcc:cap2=cap':=by injection hs'
      subst hcc;split at hin
      ·rename_i cs ee hget;cases hbb:Nat.ble (off+len * i.size+new.length) cs.length
       ·simp[hbb]at hin
       ·simp only[hbb,cond_true,Option.some.injEq,Prod.mk.injEq]at hin;obtain⟨rfl,rfl⟩:=hin;have hbb:=Nat.le_of_ble_eq_true hbb;have hoo:o'=T.d+off:=by
         rcases ho with ho | ⟨h1,h2⟩
         ·exact ho
         ·omega
        subst hoo;obtain⟨W',w1,w2,w3⟩:=AT.Pc P hm new new' H W cs (off+len * i.size) 0 h hget hn1 hok (by omega);refine⟨μ,_,W',hinR _ _ _ _ hle (fun a ha=>?_) (fun ha=>by cases ha),w2,?_,w3⟩
        ·cases ha
         rw[add_eq,Nat.add_assoc];exact w1
        ·refine .slice b off _ _ _ _ T hm ?_ (.inl rfl);rcases hcr with⟨c1,c2⟩ | ⟨c1,c2,c3,c4,c5⟩
         ·exact .inl ⟨c1,c2⟩
         ·exact .inr ⟨c1,c2,hle,c4,c5⟩
      ·cases hin
    ·cases hin
   cases hx1:Nat.blt cap AF
   ·simp only[hx1,cond_false]at hi;have hcapU:AF<=cap:=by
     rcases Nat.lt_or_ge cap AF with hh | hh
     ·exact absurd (Nat.ble_eq_true_of_le hh) (by rw[show Nat.ble (cap+1) AF=Nat.blt cap AF from rfl,hx1];decide)
     ·exact hh
    cases De:Nat.ble (len+n) (cap - AF)
    ·simp only[De,cond_false]at hi;unfold Dn at hi;split at hi
     ·rename_i b off _ _ heq;cases heq
      split at hi
      ·rename_i cs ee hget;cases hbb:(Nat.beq ((cs.drop off).take (len * i.size)).length (len * i.size)&&Nat.beq ee i.size&&Nat.ble ((2 * (len+n)+192) * i.bytes) 281474976710656&&Nat.ble (len+n) 4611686018427387904)
       ·simp only[hbb,cond_false]at hi;cases hi
       ·simp only[hbb,cond_true,Option.some.injEq,Prod.mk.injEq]at hi;obtain⟨rfl,rfl⟩:=hi;simp only[Bool.and_eq_true]at hbb;obtain⟨⟨⟨b1,b2⟩,b3⟩,b4⟩:=hbb;have b1:=Nat.eq_of_beq_eq_true b1;have b2:=Nat.eq_of_beq_eq_true b2;have b3:=Nat.le_of_ble_eq_true b3;have b4:=Nat.le_of_ble_eq_true b4;subst b2;cases hs with
        | slice _ _ _ _ cap' o' T hm hcr ho=>
         have hcr':cap - AF<=cap'/\len<=cap'/\off+cap' * T.e<=T.r/\(T.e=1∨cap'<=9223372036854775807):=by
          rcases hcr with⟨c1,c2⟩ | ⟨c1,c2,c3,c4,c5⟩
          ·omega
          ·exact⟨c2,c3,c4,c5⟩
         obtain⟨c2,c3,c4,c5⟩:=hcr';obtain⟨hdel,hdelE⟩:=h.del hm
         by_cases hfit:len+n<=cap'
         ·have hoo:o'=T.d+off:=by
           rcases ho with ho | ⟨h1,h2⟩
           ·exact ho
           ·omega
          subst hoo;obtain⟨ob,hob,hor⟩:=h.obj b _ hget T hm;cases hor with
          | cells _ _ _ arr t lo hi2 hTe hcl hsz hfz=>
           rw[<-hTe]at c4;have hne1:len * i.size+n * i.size<=cap' * i.size:=by rw[<-Nat.add_mul];exact Nat.mul_le_mul_right _ hfit
           have hcslen:=hcl.length;have hn1l:=hn1.length;obtain⟨w',arr',r1,r2,r3,r4,r5,r6,r7⟩:=IX P T.c t (lo,hi2) new' 0 (T.d+off+len * i.size) arr W hob (by omega) (fun j hj=>hfz rfl j (.inl hj)) (fun q hq=>by
            obtain⟨k,hk,rfl⟩:=List.getElem_of_mem hq;have hk2:k < new.length:=by omega
            exact H4 (hn1.idx k hk2 hk) (List.all_eq_true.1 hok _ (List.getElem_mem hk2)))
           obtain⟨φ,q⟩:=h.abs;have hmap:=hdel.Hr (T:=⟨T.c,T.d+off,T.r - off,i.size⟩) (o:= .cells ((cs.drop off).take (len * i.size)++new) i.size false) (W':=w') (by omega)
            (fun j _ hj=>r5 j hj)
            (fun b' p T' hb' hm' hv=>by
             intro e1;rw[AA.Bb]at hb'
             by_cases e2:b'=b
             ·rw[if_pos e2]at hb';cases hb'
             ·rw[if_neg e2]at hb';exact e2 (h.inj b' b _ _ hb' hget T' T hm' hm hv id e1 (.inr rfl)))
            ⟨φ,⟨fun b' a ro T' h1 h2=>q.rep b' a ro T' (AA.BJ h1).2 h2,fun b' a ro T' h1 h2 b2 o2 T2 h3 h4 h5=>q.ER b' a ro T' (AA.BJ h1).2 h2 b2 o2 T2 (AA.BJ h3).2 h4 h5⟩,
             fun b' a ro h1 ⟨T',h2⟩=>(q.ER b' a ro T' (AA.BJ h1).2 h2 b _ T hget hm (Ne.symm (AA.BJ h1).1)).1 id⟩
            r2 (h.own b _ hget rfl T hm id) ?_ r6 r7
           ·refine⟨_,_,w',hinR _ _ _ _ hfit (fun a ha=>?_) (fun ha=>by cases ha),hmap.1,?_,hdelE.trans hmap.2⟩
            ·cases ha
             rw[add_eq];exact r1
            ·exact .slice H.next 0 _ _ _ _ ⟨T.c,T.d+off,T.r - off,i.size⟩ (Ai.Av _ _ _) (.inr ⟨by omega,by omega,hfit,by show 0+cap' * i.size<=T.r - off;omega,by show i.size=1∨_;omega⟩) (.inl rfl)
           ·refine .cells ⟨T.c,T.d+off,T.r - off,i.size⟩ _ _ false _ t lo hi2 rfl ?_ ?_ ?_
            ·have hal:arr.toList.length=arr.size:=by simp
             show BD μ _ (List.take _ (List.drop (T.d+off) arr'.toList));rw[r3,Nat.add_zero];have hold:BD μ ((cs.drop off).take (len * i.size)) ((arr.toList.drop (T.d+off)).take (len * i.size)):=by
              have:=(hcl.drop off).take (len * i.size);rw[List.drop_take,List.drop_drop,List.take_take,Nat.min_eq_left (by rw[List.length_take,List.length_drop]at b1;omega)]at this;exact this
             have hsplit:(BX arr.toList (T.d+off+len * i.size) new').drop (T.d+off)=((arr.toList.drop (T.d+off)).take (len * i.size))++(new'++arr.toList.drop (T.d+off+len * i.size+new'.length)):=by
              unfold BX;rw[List.drop_append_of_le_length (by simp;omega),List.drop_take]
              congr 2
              omega
             have hol:=hold.length;generalize hO:(cs.drop off).take (len * i.size)=O at hold hol b1 ⊢;generalize hO':(arr.toList.drop (T.d+off)).take (len * i.size)=O' at hold hol hsplit;rw[hsplit,<-List.append_assoc,List.take_append_of_le_length (by simp only[List.length_append];omega),List.take_of_length_le (l:=O'++new') (by simp only[List.length_append];omega)];exact hold.append hn1
            ·show arr'.size=T.d+off+(T.r - off);have:arr'.toList.length=arr.size:=by
              rw[r3];unfold BX
              simp only[List.length_append,List.length_take,List.length_drop,Array.length_toList];omega
             rw[Array.length_toList]at this;omega
            ·intro _ j hj;refine hfz rfl j ?_;have hsame:arr'.size=arr.size->(j < arr.size∨(j=arr.size/\i.size≠1)):=fun e=>by rw[<-e];exact hj
             refine hsame ?_;have:arr'.toList.length=arr.size:=by
              rw[r3];unfold BX
              simp only[List.length_append,List.length_take,List.length_drop,Array.length_toList];omega
             rw[Array.length_toList]at this;omega
         ·refine hgrow _ len cap' _ (H.del b) hdel hdelE hfit b3 b4 b1 ?_;have hsrcq:∃q,Dg i.size (.slice (some ⟨b,off,none⟩) len cap) H=some (len,q)/\q=(cs.drop off).take (len * i.size):=by
           unfold Dg;cases hz0:Nat.beq (len * i.size) 0
           ·simp only[hz0,cond_false,hget];rw[show Nat.beq ((cs.drop off).take (len * i.size)).length (len * i.size)=true by rw[b1];exact Nat.beq_refl _];exact⟨_,rfl,rfl⟩
           ·simp only[hz0,cond_true];have hz0:=Nat.eq_of_beq_eq_true hz0;exact⟨[],rfl,by rw[hz0];simp⟩
          obtain⟨q,hq1,hq2⟩:=hsrcq;obtain⟨_,ol,old',o1,o2⟩:=FM (P:=P) (h.drawn (W.drawn+1)) (AM.slice b off len cap cap' o' T hm hcr ho) hq1 (Nat.le_refl len);rw[List.take_of_length_le (by omega),hq2]at o1;exact⟨old',o1,o2⟩
      ·cases hi
     ·cases hi
    ·simp only[De,cond_true]at hi;have De:=Nat.le_of_ble_eq_true De;cases hs with
     | CD=>unfold Eo at hi;simp at hi
     | Bw=>unfold Eo at hi;simp at hi
     | C8=>unfold Eo at hi;simp at hi
     | Cf=>unfold Eo at hi;simp at hi
     | Er=>unfold Eo at hi;simp at hi
     | slice b o _ _ cap' o' T hm hcr ho=>
      refine hin cap' rfl ?_ hi;rcases hcr with⟨c1,c2⟩ | ⟨c1,c2,c3,c4,c5⟩<;>omega
   ·simp only[hx1,cond_true]at hi;have hx1:cap < AF:=Nat.le_of_ble_eq_true hx1;cases De:Nat.ble (len+n) cap
    ·simp only[De,cond_false]at hi;have De:¬len+n<=cap:=fun hh=>by rw[Nat.ble_eq_true_of_le hh]at De;cases De
     unfold KM at hi;split at hi
     ·rename_i m C2 hso;cases hbb:(Nat.ble ((2 * (len+n)+192) * i.bytes) 281474976710656&&Nat.ble (len+n) 4611686018427387904)
      ·simp only[hbb,cond_false]at hi;cases hi
      ·simp only[hbb,cond_true,Option.some.injEq,Prod.mk.injEq]at hi;obtain⟨rfl,rfl⟩:=hi;simp only[Bool.and_eq_true]at hbb;have b1:=Nat.le_of_ble_eq_true hbb.1;have b2:=Nat.le_of_ble_eq_true hbb.2;have hlen2:=(FM (P:=P) h hs hso (Nat.zero_le m)).1;cases hs with
       | Bw=>simp[Dg]at hso
       | C8=>simp[Dg]at hso
       | Cf=>simp[Dg]at hso
       | Er=>simp[Dg]at hso
       | CD=>
        have hml:len=m:=by simpa [Builtin.lenOf] using hlen2
        subst hml;obtain⟨_,ol,old',o1,o2⟩:=FM (P:=P) (h.drawn (W.drawn+1)) (AM.CD len cap) hso (Nat.le_refl len);rw[List.take_of_length_le (by omega)]at o1;exact hgrow none len cap C2 H h (Ak.refl _ _) De b1 b2 ol ⟨old',o1,o2⟩
       | slice b o _ _ cap' o' T hm hcr ho=>
        have hml:len=m:=by simpa [Builtin.lenOf] using hlen2
        subst hml;have hce:cap'=cap:=by rcases hcr with⟨_,c2⟩ | ⟨c1,_⟩<;>omega
        subst hce;obtain⟨_,ol,old',o1,o2⟩:=FM (P:=P) (h.drawn (W.drawn+1)) (AM.slice b o len cap' cap' o' T hm hcr ho) hso (Nat.le_refl len);rw[List.take_of_length_le (by omega)]at o1;exact hgrow _ len cap' C2 H h (Ak.refl _ _) De b1 b2 ol ⟨old',o1,o2⟩
     ·cases hi
    ·simp only[De,cond_true]at hi;have De:=Nat.le_of_ble_eq_true De;cases hs with
     | CD=>unfold Eo at hi;simp at hi
     | Bw=>unfold Eo at hi;simp at hi
     | C8=>unfold Eo at hi;simp at hi
     | Cf=>unfold Eo at hi;simp at hi
     | Er=>unfold Eo at hi;simp at hi
     | slice b o _ _ cap' o' T hm hcr ho=>
      refine hin cap' rfl ?_ hi;rcases hcr with⟨c1,c2⟩ | ⟨c1,c2,c3,c4,c5⟩<;>omega
  ·simp only[hn0,cond_true]at hi;have hn0:=Nat.eq_of_beq_eq_true hn0;subst hn0;have hnew:new'=[]:=by
    have:=hn1.length;rw[hnl]at this;exact List.eq_nil_of_length_eq_zero (by omega)
   subst hnew;cases hle:Nat.ble len cap
   ·simp[hle]at hi
   ·simp only[hle,cond_true,Option.some.injEq,Prod.mk.injEq]at hi;obtain⟨rfl,rfl⟩:=hi;have hle:=Nat.le_of_ble_eq_true hle;cases hs with
    | Bw b j _ _ cap' o' T hm hcr ho hr=>
     refine⟨μ,_,W,hinR _ _ _ _ ?_ (fun a ha=>rfl) (fun ha=>by cases ha),h,.Bw b j _ _ _ o' T hm hcr ho hr,Ak.refl _ _⟩;rcases hcr with⟨c1,c2⟩ | ⟨c1,c2,c3,c4,c5⟩<;>omega
    | CD=>
     exact⟨μ,_,W,hinR _ _ _ _ hle (fun a ha=>by cases ha) (fun _=>rfl),h,.CD _ _,Ak.refl _ _⟩
    | Cf b j _ _ cap' o' T M hm hm2 hcr ho hr=>
     refine⟨μ,_,W,hinR _ _ _ _ ?_ (fun a ha=>rfl) (fun ha=>by cases ha),h,.Cf b j _ _ _ o' T M hm hm2 hcr ho hr,Ak.refl _ _⟩;rcases hcr with⟨c1,c2⟩ | ⟨c1,c2,c3,c4,c5⟩<;>omega
    | Er b j cap T a hm hc=>
     exact⟨μ,_,W,hinR _ _ _ _ (Nat.le_refl _) (fun a ha=>rfl) (fun _=>rfl),h,.Er b j cap T a hm hc,Ak.refl _ _⟩
    | C8 b j cap T a hm hc=>
     exact⟨μ,_,W,hinR _ _ _ _ (Nat.le_refl _) (fun a ha=>rfl) (fun _=>rfl),h,.C8 b j cap T a hm hc,Ak.refl _ _⟩
    | slice b o _ _ cap' o' T hm hcr ho=>
     refine⟨μ,_,W,hinR _ _ _ _ ?_ (fun a ha=>rfl) (fun ha=>by cases ha),h,.slice b o _ _ _ o' T hm hcr ho,Ak.refl _ _⟩;rcases hcr with⟨c1,c2⟩ | ⟨c1,c2,c3,c4,c5⟩<;>omega
 ·cases hi
theorem iH {argTypes:Array TypeId} {ty sT xT e:TypeId} {k:IntKind} {i:TypeInfo} {n:Nat} {kx:IntKind} {zz:Value} {z:List Value} (hz4:zz.cells.toList=z) (hfl:flat zz=true)
 (ht:argTypes.toList=[sT,xT]) (hu:P.underlying sT=some (.slice e)) (hux:P.underlying xT=some (.int k)) (hi:P.info? e=some i) (hz:i.zero=some zz) (hzl:zz.cells.size=i.size) (hb:n * i.bytes<=281474976710656) (hn:n<=9223372036854775807):
 J5 P μ W argTypes ty e i zz (.int kx (Int.ofNat n)) n (Df z (n * z.length)):=by
 obtain rfl:argTypes=#[sT,xT]:=by rw[<-Array.toList_inj];simpa using ht
 have hw:IntKind.i64.wrap (n:Int)=(n:Int):=by rw[IntKind.wrap_i64];omega
 have hnb:¬(281474976710656 < (n:Int) * (i.bytes:Int)):=by
  have:((n * i.bytes:Nat):Int)<=281474976710656:=by omega
  rw[Int.natCast_mul]at this;omega
 have hn0:¬((n:Int) < 0):=by omega
 have hzn:z.length=zz.cells.size:=by rw[<-hz4];simp
 have hlr:BD μ (Df z (n * z.length)) (Builtin.zeroCells zz.cells n).toList:=by
  have:=G8 (μ:=μ) hfl hz4 (n * z.length);rw[hzn]at this ⊢;exact this
 have hz0:n * i.size=0->(Builtin.zeroCells zz.cells n)=#[]:=by
  intro h0;apply Array.eq_empty_of_size_eq_zero
  rw[EG,hzl,h0]
 refine⟨⟨_,hlr,fun bs len cap w' hc hst hno=>?_⟩,⟨_,hlr,fun bs len cap lo hnc hbig hbig2 hfo=>?_⟩⟩
 ·by_cases h0:n * i.size=0
  ·rw[hz0 h0]at hst;cases bs with
   | none=>
    obtain rfl:=hno rfl;simp[Builtin.append_,run_underlying hu,run_underlying hux,sizeOf,typeInfo,hi,asInt,asIntOf,hw,hnb,hn0,hc,h0]
   | some a=>
    have hst:=hst a rfl;simp[Builtin.append_,run_underlying hu,run_underlying hux,sizeOf,typeInfo,hi,asInt,asIntOf,hw,hnb,hn0,hc,h0,hst]
  ·cases bs with
   | none=>
    obtain rfl:=hno rfl;simp[Builtin.append_,run_underlying hu,run_underlying hux,sizeOf,typeInfo,zeroValue,hi,hz,asInt,asIntOf,hw,hnb,hn0,hc]
   | some a=>
    have hst:=hst a rfl;simp[Builtin.append_,run_underlying hu,run_underlying hux,sizeOf,typeInfo,zeroValue,hi,hz,asInt,asIntOf,hw,hnb,hn0,hc,h0,hst]
 ·have hnc':=Js (need:=len+n) (cap:=cap) (by omega);have h48:¬(281474976710656 < Builtin.nextslicecap (len+n) cap * i.bytes):=by
   have:=Nat.mul_le_mul_right i.bytes hnc';omega
  have h63:¬(9223372036854775807 < ((len:Int)+(n:Int))):=by omega
  refine⟨grownCap W (len+n) cap e,by simp[grownCap,Question.cut],by simp only[grownCap,Question.cut];have:=Nat.mod_lt (W.tape W.drawn (.appendCap (len+n) cap e)) (y:=2 ^ 63 - (len+n)) (by omega);omega,?_⟩
  by_cases h0:n * i.size=0
  ·rw[hz0 h0];simp[Builtin.append_,run_underlying hu,run_underlying hux,sizeOf,typeInfo,zeroValue,hi,hz,asInt,asIntOf,hw,hnb,hn0,hnc,h63,h48,Question.forced,h0,hfo,newRow,grownCap]
  ·simp[Builtin.append_,run_underlying hu,run_underlying hux,sizeOf,typeInfo,zeroValue,hi,hz,asInt,asIntOf,hw,hnb,hn0,hnc,h63,h48,Question.forced,h0,hfo,newRow,grownCap]
theorem Om (h:AT base W0 μ H W) {argTypes:Array TypeId} {ty sT xT e:TypeId} {i:TypeInfo} {zz x x':Value} {n:Nat} {new:List Value} (hty:argTypes.toList=[sT,xT]) (hu:P.underlying sT=some (.slice e)) (hss:Cv (P.underlying xT)=true)
 (hie:P.info? e=some i) (q2:i.zero=some zz) (hx:AM μ x x') (hsrc:Dg i.size x H=some (n,new)):J5 P μ W argTypes ty e i zz x' n new:=by
 obtain⟨d,hux,hd⟩:=FH hss;obtain⟨hlen,hnl,new',hn1,hn2⟩:=FM (P:=P) h hx hsrc (Nat.le_refl n);rw[List.take_of_length_le (by omega)]at hn1;refine⟨⟨new',hn1,fun bs len cap w' hc hst hno=>Jd hty hu hux hd hie hlen hc hn2 hst hno⟩,?_⟩;obtain⟨_,_,new2,m1,m2⟩:=FM (P:=P) (h.drawn (W.drawn+1)) hx hsrc (Nat.le_refl n);rw[List.take_of_length_le (by omega)]at m1;exact⟨new2,m1,fun bs len cap lo hnc hbig hbig2 o2=>HL (ty:=ty) (P:=P) (W:=W) (bs:=bs) (cap:=cap) hty hu hux hd hie q2 hlen hnc hbig hbig2 m2 o2⟩
theorem TC (h:AT base W0 μ H W) {argTypes:Array TypeId} {args:List Value} {args':Array Value} {ty:TypeId} {v:Value} {H':AA} (ha:BD μ args args'.toList) (hi:PR P argTypes args H=some (v,H')):
 ∃μ' v' W',(Builtin.append_ argTypes ty args').run P W= .ok v' W'/\AT base W0 μ' H' W'/\AM μ' v v'/\Ak μ H μ' H':=by
 unfold PR at hi;split at hi
 ·rename_i sT xT s x hty;obtain⟨s',x',rfl,hs,hx⟩:∃s' x',args'=#[s',x']/\AM μ s s'/\AM μ x x':=by
   generalize hq:args'.toList=q at ha;cases ha with
   | cons h1 h2=>cases h2 with
    | cons h3 h4=>cases h4;exact⟨_,_,by rw[<-Array.toList_inj,hq],h1,h3⟩
  split at hi
  ·rename_i e hu;split at hi
   ·rename_i i z hie hz;obtain⟨i2,zz,q1,q2,q3,q4⟩:=Fh hz;rw[hie]at q1;cases q1
    cases hint:TW (P.underlying xT)
    case true=>
     simp only[hint,cond_true]at hi;split at hi
     ·rename_i n new hsz;cases hc:(new.all Bh&&Nat.beq z.length i.size)
      ·simp only[hc,cond_false]at hi;cases hi
      ·simp only[hc,cond_true]at hi;simp only[Bool.and_eq_true]at hc;have hzl:=Nat.eq_of_beq_eq_true hc.2;obtain⟨k,hux⟩:∃k,P.underlying xT=some (.int k):=by
        unfold TW at hint;split at hint
        ·rename_i k e;exact⟨k,e⟩
        ·cases hint
       unfold dM at hsz;split at hsz
       ·rename_i kx m;cases hbb:(Nat.ble (m * i.bytes) 281474976710656&&Nat.ble m 9223372036854775807)
        ·simp[hbb]at hsz
        ·simp only[hbb,cond_true,Option.some.injEq,Prod.mk.injEq]at hsz;obtain⟨rfl,rfl⟩:=hsz;simp only[Bool.and_eq_true]at hbb;cases hx
         have hzsz:zz.cells.size=i.size:=by rw[<-hzl,<-q4];simp
         exact Fg (e:=e) h hs (iH q4 q3 hty hu hux hie q2 hzsz (Nat.le_of_ble_eq_true hbb.1) (Nat.le_of_ble_eq_true hbb.2)) hzsz (by simp[Df,hzl]) hc.1 hi
       ·cases hsz
     ·cases hi
    case false=>
    simp only[hint,cond_false]at hi;split at hi
    ·rename_i n new hsrc;cases hc:(Cv (P.underlying xT)&&new.all Bh&&Nat.beq z.length i.size)
     ·simp only[hc,cond_false]at hi;cases hi
     simp only[hc,cond_true]at hi;simp only[Bool.and_eq_true]at hc;obtain⟨⟨hss,hok⟩,hzl⟩:=hc;obtain⟨d,hux,hd⟩:=FH hss;have hzl:=Nat.eq_of_beq_eq_true hzl;have hzsz:zz.cells.size=i.size:=by rw[<-hzl,<-q4];simp
     obtain⟨hlen,hnl,new',hn1,hn2⟩:=FM (P:=P) h hx hsrc (Nat.le_refl n);rw[List.take_of_length_le (by omega)]at hn1;exact Fg (e:=e) h hs (Om h hty hu hss hie q2 hx hsrc) hzsz hnl hok hi
    ·cases hi
   ·cases hi
  ·cases hi
 ·cases hi
end
section
variable {P:Program} {base:Env} {W0:World} {μ:Ai} {H:AA} {W:World}
def YO (P:Program) (argTypes:Array TypeId) (args:List Value) (H:AA):Option (Value × AA):=
 match argTypes.toList,args with
 | dT::_,[.slice a dLen _,src]=>
  match P.underlying dT with
  | some (.slice e)=>
   match DK P e with
   | some sz=>
    match Dg sz src H with
    | some (n,l)=>
     let m:=Nat.min n dLen
     let new:=l.take (m * sz)
     bif Nat.beq (m * sz) 0 then some (.int .i64 (Int.ofNat m),H)else
     match a with
     | some ⟨b,off,none⟩=>
      match H.get b with
      | some (.cells cs e false)=>
       bif new.all Bh&&Nat.ble (off+new.length) cs.length then some (.int .i64 (Int.ofNat m),H.put b (.cells (BX cs off new) e false))else none
      | _=>none
     | _=>none
    | none=>none
   | none=>none
  | _=>none
 | _,_=>none
theorem Qk {args:List Value} {args':Array Value} {s x:Value} (ha:BD μ args args'.toList) (he:args=[s,x]):∃s' x',args'=#[s',x']/\AM μ s s'/\AM μ x x':=by
 subst he;generalize hq:args'.toList=q at ha;cases ha with
 | cons h1 h2=>cases h2 with
  | cons h3 h4=>cases h4;exact⟨_,_,by rw[<-Array.toList_inj,hq],h1,h3⟩
theorem aJ {args:List Value} {args':Array Value} {s:Value} (ha:BD μ args args'.toList) (he:args=[s]):∃s',args'=#[s']/\AM μ s s':=by
 subst he;generalize hq:args'.toList=q at ha;cases ha with
 | cons h1 h2=>cases h2;exact⟨_,by rw[<-Array.toList_inj,hq],h1⟩
theorem X5 (h:AT base W0 μ H W) {argTypes:Array TypeId} {args:List Value} {args':Array Value} {ty:TypeId} {v:Value} {H':AA} (ha:BD μ args args'.toList) (hi:YO P argTypes args H=some (v,H')):
 ∃v' W',(Builtin.copy_ argTypes ty args').run P W= .ok v' W'/\AT base W0 μ H' W'/\AM μ v v'/\Ak μ H μ H':=by
 unfold YO at hi;split at hi
 ·rename_i dT rest a dLen dCap src hty;obtain⟨s',x',rfl,hs,hx⟩:=Qk ha rfl;have ht0:argTypes[0]? = some dT:=by rw[<-Array.getElem?_toList,hty];rfl
  split at hi
  ·rename_i e hu;split at hi
   ·rename_i sz hsz;split at hi
    ·rename_i n l hsrc;obtain⟨hlen,hll,l',r1,r2⟩:=FM (P:=P) h hx hsrc (Nat.min_le_left n dLen);have hml:Nat.min n dLen * sz<=n * sz:=Nat.mul_le_mul_right _ (Nat.min_le_left _ _);have htl:(l.take (Nat.min n dLen * sz)).length=Nat.min n dLen * sz:=by rw[List.length_take];omega
     cases hz:Nat.beq (Nat.min n dLen * sz) 0
     ·simp only[hz,cond_false]at hi;split at hi
      ·rename_i b off;cases hs with
       | slice _ _ _ _ cap' o' T hm hcr ho=>
        split at hi
        ·rename_i cs ee hget;cases hbb:((l.take (Nat.min n dLen * sz)).all Bh&&Nat.ble (off+(l.take (Nat.min n dLen * sz)).length) cs.length)
         ·rw[hbb]at hi;cases hi
         ·rw[hbb]at hi;simp only[cond_true,Option.some.injEq,Prod.mk.injEq]at hi;obtain⟨rfl,rfl⟩:=hi;simp only[Bool.and_eq_true]at hbb;have b2:=Nat.le_of_ble_eq_true hbb.2;have hnz:Nat.min n dLen * sz≠0:=by intro e1;rw[e1]at hz;cases hz
          have hoo:o'=T.d+off:=by
           rcases ho with ho | ⟨h1,_⟩
           ·exact ho
           ·subst h1;exact absurd (by simp) hnz
          subst hoo;obtain⟨W',w1,w2,w3⟩:=AT.Pc P hm _ l' H W cs off 0 h hget r1 hbb.1 (by omega);refine⟨_,W',?_,w2,.int _ _,w3⟩;simp only[Builtin.copy_,ht0,List.getElem?_toArray,List.getElem?_cons_zero,List.getElem?_cons_succ,Sem.run_bind,run_underlying hu,Result.andThen_ok,hlen,Be hsz,r2,w1,Sem.run_pure,goInt];rfl
        ·cases hi
      ·cases hi
     ·simp only[hz,cond_true,Option.some.injEq,Prod.mk.injEq]at hi;obtain⟨rfl,rfl⟩:=hi;have hz:=Nat.eq_of_beq_eq_true hz;have hl0:l'=[]:=by
       have:=r1.length;rw[htl,hz]at this;exact List.eq_nil_of_length_eq_zero this.symm
      subst hl0;refine⟨.int .i64 (Int.ofNat (Nat.min n dLen)),W,?_,h,.int _ _,Ak.refl _ _⟩;cases hs with
      | CD=>simp[Builtin.copy_,ht0,run_underlying hu,hlen,Be hsz,r2,goInt]
      | C8 _ _ _ _ a=>
       rw[Nat.min_zero]at r2;cases a<;>simp[storeCells,Builtin.copy_,ht0,run_underlying hu,hlen,Be hsz,r2,goInt]
      | Bw=>simp[Builtin.copy_,ht0,run_underlying hu,hlen,Be hsz,r2,goInt,storeCells]
      | Er _ _ _ _ a=>
       rw[Nat.min_zero]at r2;cases a<;>simp[storeCells,Builtin.copy_,ht0,run_underlying hu,hlen,Be hsz,r2,goInt]
      | Cf=>simp[Builtin.copy_,ht0,run_underlying hu,hlen,Be hsz,r2,goInt,storeCells]
      | slice=>simp[Builtin.copy_,ht0,run_underlying hu,hlen,Be hsz,r2,goInt,storeCells]
    ·cases hi
   ·cases hi
  ·cases hi
 ·cases hi
def Sr (P:Program) (argTypes:Array TypeId) (args:List Value) (H:AA):Option (Value × AA):=
 match argTypes.toList,args with
 | t::_,[.slice a n _]=>
  match P.underlying t with
  | some (.slice e)=>
   bif Nat.beq n 0 then some (Go.undef,H)else
   match GO P e,a with
   | some z,some ⟨b,off,none⟩=>
    match H.get b with
    | some (.cells cs e false)=>
     let new:=Df z (n * z.length)
     bif new.all Bh&&Nat.ble (off+new.length) cs.length then some (Go.undef,H.put b (.cells (BX cs off new) e false))else none
    | _=>none
   | _,_=>none
  | _=>none
 | _,_=>none
theorem WS (h:AT base W0 μ H W) {argTypes:Array TypeId} {args:List Value} {args':Array Value} {ty:TypeId} {v:Value} {H':AA} (ha:BD μ args args'.toList) (hi:Sr P argTypes args H=some (v,H')):
 ∃v' W',(Builtin.clear_ argTypes ty args').run P W= .ok v' W'/\AT base W0 μ H' W'/\AM μ v v'/\Ak μ H μ H':=by
 unfold Sr at hi;split at hi
 ·rename_i t rest a n cap hty;obtain⟨s',rfl,hs⟩:=aJ ha rfl;have ht0:argTypes[0]? = some t:=by rw[<-Array.getElem?_toList,hty];rfl
  split at hi
  ·rename_i e hu;cases hz:Nat.beq n 0
   ·simp only[hz,cond_false]at hi;have hn0:n≠0:=by intro e1;rw[e1]at hz;cases hz
    split at hi
    ·rename_i z b off hzl;obtain⟨zz,q1,q2,q3⟩:=Et hzl W;cases hs with
     | slice _ _ _ _ cap' o' T hm hcr ho=>
      split at hi
      ·rename_i cs ee hget;cases hbb:((Df z (n * z.length)).all Bh&&Nat.ble (off+(Df z (n * z.length)).length) cs.length)
       ·simp only[hbb,cond_false]at hi;cases hi
       ·simp only[hbb,cond_true,Option.some.injEq,Prod.mk.injEq]at hi;obtain⟨rfl,rfl⟩:=hi;simp only[Bool.and_eq_true]at hbb;have b2:=Nat.le_of_ble_eq_true hbb.2;have hoo:o'=T.d+off:=by
         rcases ho with ho | ⟨h1,_⟩
         ·exact ho
         ·exact absurd h1 hn0
        subst hoo;have hl:=G8 (μ:=μ) q2 q3 (n * z.length);obtain⟨W',w1,w2,w3⟩:=AT.Pc P hm _ _ H W cs off 0 h hget hl hbb.1 (by omega);refine⟨_,W',?_,w2,AM.undef μ,w3⟩;have hzc:(Builtin.zeroCells zz.cells n).toList=((Array.range (n * z.length)).map (zz.cells[· % zz.cells.size]!)).toList:=by
         have:zz.cells.size=z.length:=by rw[<-q3];simp
         simp only[Builtin.zeroCells,this]
        obtain⟨k,rfl⟩:∃k,n=k+1:=⟨n - 1,by omega⟩
        simp only[Builtin.clear_,ht0,List.getElem?_toArray,List.getElem?_cons_zero,Sem.run_bind,run_underlying hu,Result.andThen_ok,q1,hzc,w1,Sem.run_pure];rfl
      ·cases hi
    ·cases hi
   ·simp only[hz,cond_true,Option.some.injEq,Prod.mk.injEq]at hi;obtain⟨rfl,rfl⟩:=hi;have hz:=Nat.eq_of_beq_eq_true hz;subst hz;refine⟨_,W,?_,h,AM.undef μ,Ak.refl _ _⟩;cases hs with
    | C8 _ _ _ _ a=>cases a<;>simp[Builtin.clear_,ht0,run_underlying hu]<;>rfl
    | Er _ _ _ _ a=>cases a<;>simp[Builtin.clear_,ht0,run_underlying hu]<;>rfl
    | _=>simp[Builtin.clear_,ht0,run_underlying hu]<;>rfl
  ·cases hi
 ·cases hi
def fa (P:Program) (t:TypeId) (x:Value):Option Value:=
 match P.underlying t,x with
 | some .string,.string s=>some (.int .i64 (Int.ofNat s.size))
 | some (.array n _),_=>some (.int .i64 (Int.ofNat n))
 | some (.slice _),.slice _ n _=>some (.int .i64 (Int.ofNat n))
 | _,_=>none
theorem cJ {argTypes:Array TypeId} {t ty:TypeId} {x x' v:Value} (hx:AM μ x x') (ht:argTypes[0]? = some t) (hi:fa P t x=some v):
 (Builtin.len_ argTypes ty #[x']).run P W= .ok v W/\∃n,v= .int .i64 n:=by
 unfold fa at hi;split at hi
 ·rename_i s hu;cases hx;cases hi;exact⟨by simp[Builtin.len_,ht,run_underlying hu,goInt],_,rfl⟩
 ·rename_i n e hu;cases hi;exact⟨by simp[Builtin.len_,ht,run_underlying hu,goInt],_,rfl⟩
 ·rename_i a n c hu;cases hi
  cases hx<;>exact⟨by simp[Builtin.len_,ht,run_underlying hu,goInt],_,rfl⟩
 ·cases hi
def Hj (P:Program) (s:TypeId) (x:Value) (k:Nat):Option Value:=
 match P.underlying s,x with
 | some (.struct fields),.pointer (some ⟨b,off,none⟩)=>
  match fields.toList[k]? with
  | some f=>match DK P f.type with
   | some n=>bif Nat.beq n 0 then none else some (.pointer (some ⟨b,off+f.offset,none⟩))
   | none=>none
  | none=>none
 | _,_=>none
theorem Jn {s:TypeId} {x x' v:Value} {k:Nat} (hx:AM μ x x') (hi:Hj P s x k=some v):∃v',(Instr.fieldAt s x' k).run P W= .ok v' W/\AM μ v v':=by
 unfold Hj at hi;split at hi
 ·rename_i fields b off hu;cases hx with
  | ptr _ _ T hm=>
   split at hi
   ·rename_i f hf;split at hi
    ·rename_i n hn;cases hz:Nat.beq n 0
     ·simp only[hz,cond_false,Option.some.injEq]at hi;subst hi;have hnz:¬n=0:=by intro e1;rw[e1]at hz;cases hz
      have hf':fields[k]? = some f:=by rw[<-Array.getElem?_toList];exact hf
      refine⟨_,?_,AM.ptr b (off+f.offset) T hm⟩;simp[Instr.fieldAt,run_underlying hu,hf',Instr.sureAddr,fieldPlace,Be hn,hnz,add_eq,Nat.add_assoc]
     ·simp[hz]at hi
    ·cases hi
   ·cases hi
 ·cases hi
def NP:Value->Option Nat
 | .int _ (.ofNat k)=>some k
 | _=>none
def GR (P:Program) (t:TypeId) (x ix:Value):Option Value:=
 match NP ix,P.underlying t,x with
 | some k,some (.array n e),.pointer (some ⟨b,off,none⟩)=>
  match DK P e with
  | some sz=>bif Nat.blt k n then some (.pointer (some ⟨b,off+k * sz,none⟩))else none
  | none=>none
 | some k,some (.slice e),.slice (some ⟨b,off,none⟩) n _=>
  match DK P e with
  | some sz=>bif Nat.blt k n then some (.pointer (some ⟨b,off+k * sz,none⟩))else none
  | none=>none
 | _,_,_=>none
theorem Kk {v:Value} {k:Nat} (h:NP v=some k):∃kd,v= .int kd (Int.ofNat k):=by
 unfold NP at h;split at h
 ·cases h;exact⟨_,rfl⟩
 ·cases h
theorem Gu {t:TypeId} {x x' ix ix' v:Value} (hx:AM μ x x') (hix:AM μ ix ix') (hi:GR P t x ix=some v):∃v',(Instr.indexAt t x' ix').run P W= .ok v' W/\AM μ v v':=by
 unfold GR at hi;split at hi
 ·rename_i k n e b off hk hu;obtain⟨kd,rfl⟩:=Kk hk;cases hix
  cases hx with
  | ptr _ _ T hm=>
   split at hi
   ·rename_i sz hsz;cases hlt:Nat.blt k n
    ·simp[hlt]at hi
    ·simp only[hlt,cond_true,Option.some.injEq]at hi;subst hi;have hlt:k < n:=Nat.le_of_ble_eq_true hlt;refine⟨_,?_,AM.ptr b (off+k * sz) T hm⟩;have hc:(0:Int)<=Int.ofNat k/\Int.ofNat k < (n:Int):=⟨by simp,by have:=Int.ofNat_lt.2 hlt;simpa using this⟩;simp only[Instr.indexAt,asIntOf,Sem.run_bind,Sem.run_pure,Result.andThen_ok,run_underlying hu,Instr.sureAddr,if_pos hc,Be hsz,add_eq];simp[Nat.add_assoc]
   ·cases hi
 ·rename_i k e b off n c hk hu;obtain⟨kd,rfl⟩:=Kk hk;cases hix
  cases hx with
  | slice _ _ _ _ cap' o' T hm hcr ho=>
   split at hi
   ·rename_i sz hsz;cases hlt:Nat.blt k n
    ·simp[hlt]at hi
    ·simp only[hlt,cond_true,Option.some.injEq]at hi;subst hi;have hlt:k < n:=Nat.le_of_ble_eq_true hlt;have hoo:o'=T.d+off:=by
      rcases ho with ho | ⟨h1,_⟩
      ·exact ho
      ·omega
     subst hoo;refine⟨_,?_,AM.ptr b (off+k * sz) T hm⟩;have hc:(0:Int)<=Int.ofNat k/\Int.ofNat k < (n:Int):=⟨by simp,by have:=Int.ofNat_lt.2 hlt;simpa using this⟩;simp only[Instr.indexAt,asIntOf,Sem.run_bind,Sem.run_pure,Result.andThen_ok,run_underlying hu,if_pos hc,Be hsz,add_eq];simp[Nat.add_assoc]
   ·cases hi
 ·cases hi
def RD (P:Program) (t:TypeId) (cs:List Value) (off:Nat):Option Value:=
 match P.underlying t,DK P t with
 | some d,some n=>
  bif Es d then some (.agg ⟨(cs.drop off).take n⟩)else cs[off]?
 | _,_=>none
theorem SA {t:TypeId} {cs:List Value} {cs':Array Value} {off:Nat} {v:Value} (hc:BD μ cs cs'.toList) (hi:RD P t cs off=some v):∃v',(part t cs' off).run P W= .ok v' W/\AM μ v v':=by
 unfold RD at hi;split at hi
 ·rename_i d n hd hn;cases hagg:Es d
  ·simp only[hagg,cond_false]at hi;obtain⟨v',h1,h2⟩:=hc.get? hi;refine⟨v',?_,h2⟩;rw[Array.getElem?_toList]at h1;simp[part,Hs hd,hagg,h1]
  ·simp only[hagg,cond_true,Option.some.injEq]at hi;subst hi;refine⟨.agg (cs'.extract off (off+n)),?_,AM.Cr.2 ⟨_,rfl,?_⟩⟩
   ·simp[part,Hs hd,hagg,Be hn]
   ·rw[Array.toList_extract,List.extract_eq_take_drop];have:off+n - off=n:=by omega
    rw[this];exact(hc.drop off).take n
 ·cases hi
def TV (P:Program) (t:TypeId) (x:Value) (k:Nat):Option Value:=
 match P.underlying t,x with
 | some (.struct fields),.agg cs=>match fields.toList[k]? with
  | some f=>RD P f.type cs.toList f.offset
  | none=>none
 | _,_=>none
theorem U4 {t:TypeId} {x x' v:Value} {k:Nat} (hx:AM μ x x') (hi:TV P t x k=some v):∃v',(Instr.field t x' k).run P W= .ok v' W/\AM μ v v':=by
 unfold TV at hi;split at hi
 ·rename_i fields cs hu;obtain⟨cs',rfl,hl⟩:=AM.Cr.1 hx;split at hi
  ·rename_i f hf;have hf':fields[k]? = some f:=by rw[<-Array.getElem?_toList];exact hf
   obtain⟨v',h1,h2⟩:=SA (P:=P) (W:=W) hl hi;refine⟨v',?_,h2⟩;simp[Instr.field,run_underlying hu,hf',asAgg,h1]
  ·cases hi
 ·cases hi
def OB (P:Program) (t:TypeId) (x ix:Value):Option Value:=
 match NP ix,P.underlying t,x with
 | some k,some (.array n e),.agg cs=>
  match DK P e with
  | some sz=>bif Nat.blt k n then RD P e cs.toList (k * sz)else none
  | none=>none
 | some k,some .string,.string s=>
  match s.data.toList[k]? with
  | some b=>some (.int .u8 b.toNat)
  | none=>none
 | _,_,_=>none
theorem K7 {t:TypeId} {x x' ix ix' v:Value} (hx:AM μ x x') (hix:AM μ ix ix') (hi:OB P t x ix=some v):∃v',(Instr.index t x' ix').run P W= .ok v' W/\AM μ v v':=by
 unfold OB at hi;split at hi
 ·rename_i k n e cs hk hu;obtain⟨kd,rfl⟩:=Kk hk;cases hix
  obtain⟨cs',rfl,hl⟩:=AM.Cr.1 hx;split at hi
  ·rename_i sz hsz;cases hlt:Nat.blt k n
   ·simp[hlt]at hi
   ·simp only[hlt,cond_true]at hi;have hlt:k < n:=Nat.le_of_ble_eq_true hlt;obtain⟨v',h1,h2⟩:=SA (P:=P) (W:=W) hl hi;refine⟨v',?_,h2⟩;have hc:(0:Int)<=Int.ofNat k/\Int.ofNat k < (n:Int):=⟨by simp,by have:=Int.ofNat_lt.2 hlt;simpa using this⟩;simp only[Instr.index,asIntOf,Sem.run_bind,Sem.run_pure,Result.andThen_ok,run_underlying hu,if_pos hc,Be hsz];exact h1
  ·cases hi
 ·rename_i k s hk hu;obtain⟨kd,rfl⟩:=Kk hk;cases hix;cases hx
  split at hi
  ·rename_i b hb;cases hi
   refine⟨_,?_,.int _ _⟩;rw[Array.getElem?_toList]at hb;have hlt:k < s.size:=by
    have:=(Array.getElem?_eq_some_iff.1 hb).1;exact this
   have hb':s[k]? = some b:=by
    rw[getElem?_pos s k hlt];have:=(Array.getElem?_eq_some_iff.1 hb).2;rw[<-this];rfl
   simp[Instr.index,asIntOf,run_underlying hu,hb']
  ·cases hi
 ·cases hi
end
section
variable {P:Program} {base:Env} {W0:World} {μ:Ai} {H:AA} {W:World}
def MQ:Value->Option Int
 | .int .u8 n=>some n
 | _=>none
def FQ:List Value->Option (List Int)
 | []=>some []
 | v::r=>match MQ v,FQ r with
  | some n,some l=>some (n::l)
  | _,_=>none
theorem Li:∀(l:List Value) (ns:List Int),FQ l=some ns->l=ns.map (Value.int .u8)
 | [],ns,h=>by simp[FQ]at h;subst h;rfl
 | v::r,ns,h=>by
  simp only[FQ]at h;cases hv:MQ v with
  | none=>simp[hv]at h
  | some n=>
   cases hr:FQ r with
   | none=>simp[hv,hr]at h
   | some l=>
    simp only[hv,hr,Option.some.injEq]at h;subst h;have:v= .int .u8 n:=by
     unfold MQ at hv;split at hv
     ·cases hv;rfl
     ·cases hv
    rw[this,Li r l hr];rfl
theorem R1:∀(ns:List Int) (l':List Value),BD μ (ns.map (Value.int .u8)) l'->l'=ns.map (Value.int .u8)
 | [],l',h=>by cases h;rfl
 | n::ns,l',h=>by
  simp only[List.map_cons]at h ⊢;cases h with
  | cons hv ht=>cases hv;rw[R1 ns _ ht]
theorem foldl_push:∀(ns:List Int) (r:ByteArray),ns.foldl (fun r n=>r.push (UInt8.ofNat n.toNat)) r=⟨⟨r.data.toList++ns.map fun n=>UInt8.ofNat n.toNat⟩⟩
 | [],r=>by simp
 | n::ns,r=>by
  rw[List.foldl_cons,foldl_push ns];simp[ByteArray.push,Array.push]
def HC (P:Program) (src dst:TypeId) (x:Value) (H:AA):Option (Value × AA):=
 match P.underlying src,P.underlying dst,x with
 | some (.slice e),some .string,.slice a n c=>
  match P.underlying e with
  | some (.int .u8)=>
   match a with
   | none=>some (.string ⟨⟨[]⟩⟩,H)
   | some _=>
    match Dg 1 (.slice a n c) H with
    | some (_,l)=>match FQ l with
     | some ns=>some (.string ⟨⟨ns.map fun n=>UInt8.ofNat n.toNat⟩⟩,H)
     | none=>none
    | none=>none
  | _=>none
 | some .string,some (.slice e),.string s=>
  match P.underlying e with
  | some (.int .u8)=>some (.slice (some ⟨H.next,0,none⟩) s.size (AF+s.size),H.alloc (.cells (s.data.toList.map fun b=> .int .u8 b.toNat) 1 false))
  | _=>none
 | _,_,_=>none
def Dr (s:ByteArray) (cap:Nat):Array Value:=(s.data.map fun b=>Value.int .u8 b.toNat)++Array.replicate (cap - s.size) (Value.int .u8 0)
theorem G5 {s:ByteArray} {cap:Nat} (h:s.size<=cap):(Dr s cap).size=cap:=by
 have:s.data.size=s.size:=rfl;simp[Dr];omega
theorem Ie (h:AT base W0 μ H W) {src dst:TypeId} {x x' v:Value} {H':AA} (hx:AM μ x x') (hi:HC P src dst x H=some (v,H')):
 ∃μ' v' W',(convert src dst x').run P W= .ok v' W'/\AT base W0 μ' H' W'/\AM μ' v v'/\Ak μ H μ' H':=by
 unfold HC at hi;split at hi
 ·rename_i e a n c hu1 hu2;split at hi
  ·rename_i hue;split at hi
   ·cases hi
    cases hx
    refine⟨μ,_,W,?_,h,.string _,Ak.refl _ _⟩;simp[convert,run_underlying hu1,run_underlying hu2,run_underlying hue,Conv.bytesToString];rfl
   ·rename_i a0;split at hi
    ·rename_i m l hs;split at hi
     ·rename_i ns hns;cases hi
      have hl:=Li l ns hns;obtain⟨hlen,hll,l',r1,r2⟩:=FM (P:=P) h hx hs (Nat.le_refl m);rw[List.take_of_length_le (by omega),hl]at r1;have hl':=R1 ns l' r1;subst hl';cases hx with
      | Bw=>simp[Dg]at hs
      | C8=>simp[Dg]at hs
      | Cf=>simp[Dg]at hs
      | Er=>simp[Dg]at hs
      | slice b o _ _ cap' o' T hm hcr ho=>
       have hmn:n=m:=by simpa [Builtin.lenOf] using hlen
       subst hmn;simp only[Builtin.firstCells,Nat.mul_one]at r2;refine⟨μ,_,W,?_,h,.string _,Ak.refl _ _⟩;have:=run_bytesToString (P:=P) W ⟨T.c,o',none⟩ n cap' ns r2;rw[foldl_push]at this;simp[convert,run_underlying hu1,run_underlying hu2,run_underlying hue,this]
     ·cases hi
    ·cases hi
  ·cases hi
 ·rename_i e s hu1 hu2;split at hi
  ·rename_i hue;cases hi
   cases hx
   have hcut:∃cap,s.size<=cap/\(convert src dst (.string s)).run P W= .ok (.slice (some ⟨W.heap.size,0,none⟩) s.size cap)
    (W.drew.alloc (.cells (Dr s cap) e (cap,cap+1))):=by
    refine⟨(Question.appendCap s.size 0 e).cut (W.tape W.drawn (.appendCap s.size 0 e)),by simp[Question.cut],?_⟩;generalize hq:(Question.appendCap s.size 0 e).cut (W.tape W.drawn (.appendCap s.size 0 e))=cap;have hge:s.size<=cap:=by rw[<-hq];simp[Question.cut]
    have hsize:=G5 hge;have hf:Question.forced (.appendCap s.size 0 e)=false:=rfl;have hsh:(W.drew.alloc (.cells (Dr s cap) e)).shape? W.heap.size=some (e,cap):=by
     unfold World.shape?;have:(W.drew.alloc (.cells (Dr s cap) e)).heap[W.heap.size]? = some (.cells (Dr s cap) e):=by
      show(W.heap.push _)[W.heap.size]? = _;simp
     rw[this];simp only[hsize]
    have hfr:(W.drew.alloc (.cells (Dr s cap) e)).freeze { block:=W.heap.size,off:=cap } 1=
     W.drew.alloc (.cells (Dr s cap) e (cap,cap+1)):=by
     unfold World.freeze;rw[if_neg (by decide)];show World.mk ((W.heap.push _).modify W.heap.size _) _ _ _ _=World.mk (W.heap.push _) _ _ _ _
     congr 1
     apply Array.ext_getElem?
     intro j;rw[Array.getElem?_modify,Array.getElem?_push,Array.getElem?_push]
     by_cases hj:W.heap.size=j
     ·subst hj;simp
     ·simp[hj,Ne.symm hj]
    simp only[convert,run_underlying hu1,run_underlying hu2,run_underlying hue,Sem.run_bind,Result.andThen_ok,Conv.stringToBytes,run_choose,hf,hq,newRow,run_newObj,Sem.run_pure,markStringish,run_shape,Bool.false_eq_true,if_false,World.drew_eq,World.alloc_eq];rw[show(W.drew.heap.size)=W.heap.size from rfl];have hsh':=hsh;unfold Dr at hsh' hfr;rw[hsh'];simp only[run_freeze,Result.andThen_ok];rw[hfr];rfl
   obtain⟨cap,hge,hrun⟩:=hcut;have hal:=(h.drawn (W.drawn+1)).alloc (T:=⟨W.heap.size,0,cap,1⟩) (o:= .cells (s.data.toList.map fun b=> .int .u8 b.toNat) 1 false) (o':= .cells (Dr s cap) e (cap,cap+1)) rfl ?_
   ·exact⟨_,_,_,hrun,hal.1,Dd _ _ rfl _ _ _ (.inr ⟨by omega,by omega,hge,by show 0+cap * 1<=cap;omega,.inl rfl⟩),hal.2⟩
   ·have hsz:s.data.size=s.size:=rfl;refine .cells ⟨W.heap.size,0,cap,1⟩ _ _ false _ e cap (cap+1) rfl ?_ ?_ ?_
    ·simp only[Dr,List.drop_zero,Array.toList_append,Array.toList_map,List.length_map,Array.length_toList];rw[List.take_append_of_le_length (by simp),List.take_of_length_le (by simp)];exact BD.map _ _ _ fun b _=> .int _ _
    ·rw[G5 hge];show cap=0+cap;omega
    ·intro _ j hj;rw[G5 hge]at hj;omega
  ·cases hi
 ·cases hi
def Sp (P:Program) (t:TypeId) (x:Value) (H:AA):Option (Value × AA):=
 match P.underlying t,x with
 | some .string,.string s=>some (.pointer (some ⟨H.next,0,none⟩),H.alloc (.CZ s 0))
 | _,_=>none
theorem V7 (h:AT base W0 μ H W) {t:TypeId} {x x' v:Value} {H':AA} (hx:AM μ x x') (hi:Sp P t x H=some (v,H')):
 ∃μ' v' W',(Instr.range t x').run P W= .ok v' W'/\AT base W0 μ' H' W'/\AM μ' v v'/\Ak μ H μ' H':=by
 unfold Sp at hi;split at hi
 ·rename_i s hu;cases hi;cases hx
  have hal:=h.alloc (T:=⟨W.heap.size,0,0,0⟩) (o:= .CZ s 0) (o':= .stringIter s 0) rfl (.CZ _ s 0 rfl);exact⟨_,_,_,by simp[Instr.range,run_underlying hu],hal.1,JF ⟨W.heap.size,0,0,0⟩ _ rfl,hal.2⟩
 ·cases hi
def Ud (it:Value) (isString:Bool) (H:AA):Option (Value × AA):=
 match it,isString with
 | .pointer (some ⟨r,0,none⟩),true=>
  match H.get r with
  | some (.CZ s pos)=>
   bif Nat.blt pos s.size then
    match Utf8.decode s pos with
    | (c,width)=>some (.tuple ⟨[.bool true,.int .i64 (Int.ofNat pos),.int .i32 c]⟩,H.put r (.CZ s (pos+width)))
   else some (.tuple ⟨[.bool false]⟩,H)
  | _=>none
 | _,_=>none
theorem FV {w:World} {r:Nat} {o:Obj} (h:w.heap[r]? = some o) (hn:∀c t f,o≠ .cells c t f):(getObj r).run P w= .ok o w:=by
 cases o with
 | cells c t f=>exact absurd rfl (hn c t f)
 | _=>simp only[getObj,Sem.run,h]
theorem D0 {w:World} {r:Nat} {o o1:Obj} (h:w.heap[r]? = some o) (hn:∀c t f,o≠ .cells c t f):(setObj r o1).run P w= .ok () { w with heap:=w.heap.setIfInBounds r o1 }:=by
 cases o with
 | cells c t f=>exact absurd rfl (hn c t f)
 | _=>simp only[setObj,Sem.run,h]
theorem AT.setObj (h:AT base W0 μ H W) {b:Nat} {T:B7} {o o1:AK} {o1':Obj} (hb:H.get b=some o) (hro:o.ro=false) (hm:μ b=some T) (ho:Cs μ T o1 o1') (hna1:o1.isAbs=false:=by rfl) (hsol:¬o.void T:=by exact id):
 AT base W0 μ (H.put b o1) { W with heap:=W.heap.setIfInBounds T.c o1' }/\Ak μ H μ (H.put b o1):=by
 have hlt:=h.bound b T hm;refine h.update hb hro hm (by simp) (fun i hi=>?_) ?_ ho rfl rfl hna1 hsol
 ·rw[Array.getElem?_setIfInBounds,if_neg (Ne.symm hi)]
 ·rw[Array.getElem?_setIfInBounds];simp[hlt]
theorem SH (h:AT base W0 μ H W) {it it' v:Value} {isString:Bool} {ty:TypeId} {H':AA} (hx:AM μ it it') (hi:Ud it isString H=some (v,H')):
 ∃v' W',(Instr.next it' isString ty).run P W= .ok v' W'/\AT base W0 μ H' W'/\AM μ v v'/\Ak μ H μ H':=by
 unfold Ud at hi;split at hi
 ·rename_i r;cases hx with
  | ptr _ _ T hm=>
   split at hi
   ·rename_i s pos hget;obtain⟨o',ho',hor⟩:=h.obj r _ hget T hm;cases hor with
    | CZ _ _ hd0=>
     have hg:=FV (P:=P) ho' (by intro c t f;simp);rw[hd0];cases hlt:Nat.blt pos s.size
     ·simp only[hlt,cond_false,Option.some.injEq,Prod.mk.injEq]at hi;obtain⟨rfl,rfl⟩:=hi;have hnl:¬pos < s.size:=fun hh=>by rw[show Nat.blt pos s.size=true from Nat.ble_eq_true_of_le hh]at hlt;cases hlt
      exact⟨_,W,by simp[Instr.next,hg,hnl],h,AM.CL.2 ⟨_,rfl,.cons (.bool _) .nil⟩,Ak.refl _ _⟩
     ·simp only[hlt,cond_true,Option.some.injEq,Prod.mk.injEq]at hi;obtain⟨rfl,rfl⟩:=hi;have hlt:pos < s.size:=Nat.le_of_ble_eq_true hlt;obtain⟨g1,g2⟩:=h.setObj (o1:= .CZ s (pos+(Utf8.decode s pos).2)) (o1':= .stringIter s (pos+(Utf8.decode s pos).2)) hget rfl hm (.CZ _ _ _ hd0);refine⟨.tuple #[.bool true,goInt pos,.int .i32 (Utf8.decode s pos).1],_,?_,g1,AM.CL.2 ⟨_,rfl,.cons (.bool _) (.cons (.int _ _) (.cons (.int _ _) .nil))⟩,g2⟩;simp[Instr.next,hg,hlt,D0 (P:=P) (o1:= .stringIter s (pos+(Utf8.decode s pos).2)) ho' (by intro c t f;simp)]
   ·cases hi
 ·cases hi
def Bk:Value->Option TypeDesc->Option Bool
 | .pointer a,some (.pointer _)=>some a.isNone
 | .slice none _ _,some (.slice _)=>some true
 | .slice (some ⟨_,_,none⟩) _ _,some (.slice _)=>some false
 | .map a,some (.map _ _)=>some a.isNone
 | .nilFunc,some (.func _ _ _)=>some true
 | .func _ _ _,some (.func _ _ _)=>some false
 | .nilIface,some (.interface _)=>some true
 | .iface _ _,some (.interface _)=>some false
 | _,_=>none
def El:Value->Value->Bool
 | .nilIface,.nilIface=>true
 | _,_=>false
def GL (P:Program) (op:BinOp) (t:TypeId) (x y:Value):Option Value:=
 bif El x y then none else
 match Bk x (P.underlying t),Bk y (P.underlying t)with
 | some a,some b=>
  bif a||b then
   match op with
   | .eql=>some (.bool (a&&b))
   | .neq=>some (.bool (!(a&&b)))
   | _=>none
  else none
 | _,_=>none
theorem Lj {x x':Value} {d:Option TypeDesc} {b:Bool} (hx:AM μ x x') (h:Bk x d=some b):Bk x' d=some b:=by
 cases d with
 | none=>simp[Bk]at h
 | some d=>cases d<;>cases hx<;>first | exact h | (simp[Bk,Bn]at h;done) | (simpa [Bk] using h)
theorem Tj {x x' y y':Value} {d:Option TypeDesc} {a b:Bool} (hx:AM μ x x') (hy:AM μ y y') (ha:Bk x d=some a) (hb:Bk y d=some b) (h:El x y=false):El x' y'=false:=by
 cases hx<;>first | rfl | (simp[Bk,Bn]at ha;done) | skip
 cases hy<;>first | rfl | (simp[Bk,Bn]at hb;done) | cases h
theorem VL {t:TypeId} {d:TypeDesc} {x y:Value} {a b:Bool} (hu:P.underlying t=some d) (ha:Bk x (some d)=some a) (hb:Bk y (some d)=some b) (hab:(a||b)=true) (w:World):
 (Op.equal t x y).run P w= .ok (a&&b) w:=by
 obtain⟨k0,hd⟩:∃k0,Op.maxDepth=k0+1:=⟨9999,rfl⟩
 unfold Op.equal;rw[hd];clear hd;cases d<;>cases x<;>simp[Bk]at ha<;>cases y<;>simp[Bk]at hb
 ·rename_i e p q;subst ha;subst hb
  cases p<;>cases q<;>simp at hab<;>simp[Op.equalIn,run_underlying hu]
 ·rename_i e p _ _ q _ _;rcases p with _ | ⟨_,_,_ | _⟩<;>rcases q with _ | ⟨_,_,_ | _⟩<;>simp at ha hb<;>subst ha<;>subst hb<;>simp at hab<;>simp[Op.equalIn,run_underlying hu]
 ·rename_i k e p q;subst ha;subst hb
  cases p<;>cases q<;>simp at hab<;>simp[Op.equalIn,run_underlying hu]
 all_goals (subst ha;subst hb;first | (simp at hab;done) | simp[Op.equalIn,run_underlying hu])
theorem La {op:BinOp} {t:TypeId} {x y:Operand} {a b v:Value} (hi:GL P op t a b=some v) (w:World):
 (do eqGuard op t x y a b;binOp op t a b:Sem Value).run P w= .ok v w:=by
 unfold GL at hi;cases h2:El a b
 case true=>rw[h2]at hi;cases hi
 rw[h2,cond_false]at hi;cases hu:P.underlying t with
 | none=>simp[hu,Bk]at hi
 | some d=>
  rw[hu]at hi;cases ha:Bk a (some d)with
  | none=>simp[ha]at hi
  | some p=>
   cases hb:Bk b (some d)with
   | none=>simp[ha,hb]at hi
   | some q=>
    simp only[ha,hb]at hi;cases hpq:(p||q)
    ·simp[hpq]at hi
    ·simp only[hpq,cond_true]at hi;have he:=VL hu ha hb hpq w;have hg:eqGuard op t x y a b=pure ():=by
      cases d<;>cases a<;>simp[Bk]at ha<;>cases b<;>simp[Bk]at hb<;>first | (cases h2;done) | simp[eqGuard] | (simp[eqGuard,Op.eqGuardIn,run_underlying hu];done)
     have hbo:op= .eql∨op= .neq:=by cases op<;>simp at hi<;>simp
     rw[hg];have hbin:∀r:BinOp,(r= .eql->binOp r t a b=(do pure (.bool (←Op.equal t a b))))/\(r= .neq->binOp r t a b=(do pure (.bool (!(←Op.equal t a b))))):=by
      intro r;refine⟨?_,?_⟩<;>rintro rfl<;>(cases d<;>cases a<;>simp[Bk]at ha<;>cases b<;>simp[Bk]at hb<;>rfl)
     rcases hbo with rfl | rfl
     ·simp only at hi;cases hi
      simp[(hbin .eql).1 rfl,he]
     ·simp only at hi;cases hi
      simp[(hbin .neq).2 rfl,he]
end
section
variable {P:Program} {base:Env} {W0:World} {μ:Ai} {H:AA} {W:World}
def I7:Option TypeDesc->Bool
 | some (.int _) | some .string | some .bool=>true
 | _=>false
def J3 (k v:Value):Nat->List MapEntry->List MapEntry
 | _,[]=>[]
 | 0,e::r=>{ e with key:=k,val:=v }::r
 | n+1,e::r=>e::J3 k v n r
def Rp (x:Option Value) (H:AA):Option (Value × AA):=
 match x with
 | none=>some (.map (some H.next),H.alloc (.map [] 0))
 | some _=>none
def He (P:Program) (t:TypeId) (m k v:Value) (H:AA):Option AA:=
 match P.underlying t,m with
 | some (.map kt _),.map (some r)=>
  match H.get r with
  | some (.map es clock)=>
   match P.underlying kt with
   | some kd=>bif I7 (some kd)&&flat k then
    match Instr.findNow kd k es 0 with
    | some (some (i,_))=>some (H.put r (.map (J3 k v i es) clock))
    | some none=>some (H.put r (.map (es++[{ key:=k,val:=v,born:=clock }]) (clock+1)))
    | none=>none
    else none
   | none=>none
  | _=>none
 | _,_=>none
def QD (P:Program) (t:TypeId) (m k:Value) (ok:Bool) (H:AA):Option Value:=
 match P.underlying t,m with
 | some (.map kt et),.map (some r)=>
  match H.get r with
  | some (.map es _)=>
   match P.underlying kt with
   | some kd=>bif I7 (some kd)&&flat k then
    match Instr.findNow kd k es 0 with
    | some (some (_,v))=>some (bif ok then .tuple ⟨[v,.bool true]⟩else v)
    | some none=>match P.info? et with
     | some i=>match i.zero with
      | some z=>bif flat z then some (bif ok then .tuple ⟨[z,.bool false]⟩else z)else none
      | none=>none
     | none=>none
    | none=>none
    else none
   | none=>none
  | _=>none
 | _,_=>none
def IU (P:Program) (x:Value) (at':TypeId) (ok:Bool):Option Value:=
 match P.underlying at',x with
 | some (.interface _),_=>none
 | some _,.iface t v=>bif Nat.beq t at' then some (bif ok then .tuple ⟨[v,.bool true]⟩else v)else
  bif ok then match P.info? at' with
   | some i=>match i.zero with
    | some z=>bif flat z then some (.tuple ⟨[z,.bool false]⟩)else none
    | none=>none
   | none=>none
  else none
 | _,_=>none
theorem RJ {kd:TypeDesc} {k a a':Value} (h:AM μ a a') {b:Bool} (hs:Instr.sameNow kd k a=some b):a'=a:=by
 unfold Instr.sameNow at hs;split at hs<;>first | (cases h;rfl) | cases hs
theorem Gm {kd:TypeDesc} {k:Value}:∀{es es':List MapEntry} (_:D4 μ es es') (i:Nat),
 (∀j v,Instr.findNow kd k es i=some (some (j,v))->∃v',Instr.findNow kd k es' i=some (some (j,v'))/\AM μ v v')/\
 (Instr.findNow kd k es i=some none->Instr.findNow kd k es' i=some none):=by
 intro es es' h;induction h with
 | nil=>intro i;exact⟨(fun j v h=>by cases h),fun h=>h⟩
 | @cons e e' l l' hk hv hb _ ih=>
  intro i;cases hs:Instr.sameNow kd k e.key with
  | none=>exact⟨(fun j v h=>by simp[Instr.findNow,hs]at h),(fun h=>by simp[Instr.findNow,hs]at h)⟩
  | some b=>
   have he:=RJ hk hs;have hs':Instr.sameNow kd k e'.key=some b:=by rw[he];exact hs
   cases b with
   | true=>
    refine⟨fun j v h=>?_,(fun h=>by simp[Instr.findNow,hs]at h)⟩;simp only[Instr.findNow,hs,Option.some.injEq,Prod.mk.injEq]at h;obtain⟨rfl,rfl⟩:=h;exact⟨e'.val,by simp[Instr.findNow,hs'],hv⟩
   | false=>
    simp only[Instr.findNow,hs,hs'];exact ih (i+1)
theorem run_checkKey {t:TypeId} {kd:TypeDesc} (hu:P.underlying t=some kd) (hk:I7 (some kd)=true) (b:Bool) (n:Nat) (v:Value) (w:World):(Instr.checkKey b (n+1) t v).run P w= .ok () w:=by
 cases kd<;>first | (cases hk;done) | simp[Instr.checkKey,run_underlying hu]
theorem run_findKey {t:TypeId} {kd:TypeDesc} (hu:P.underlying t=some kd) {k:Value} {es:List MapEntry} {r:Option (Nat × Value)} (h:Instr.findNow kd k es 0=some r) (w:World):(Instr.findKey t k es).run P w= .ok r w:=by
 simp[Instr.findKey,run_underlying hu,h]
theorem TB (h:AT base W0 μ H W) {t:TypeId} {m m' k k' v:Value} {ok:Bool} (hm:AM μ m m') (hk:AM μ k k') (hi:QD P t m k ok H=some v):∃v',(Instr.lookup t m' k' ok).run P W= .ok v' W/\AM μ v v':=by
 unfold QD at hi;split at hi
 ·rename_i kt et r hu;split at hi
  ·rename_i es clock hget;split at hi
   ·rename_i kd hkd;cases hc:(I7 (some kd)&&flat k)
    ·simp only[hc,cond_false]at hi;cases hi
    ·simp only[hc,cond_true]at hi;simp only[Bool.and_eq_true]at hc;have hke:=FL hc.2 hk;subst hke;cases hm with
     | map _ T hT=>
      obtain⟨o',ho',hor⟩:=h.obj r _ hget T hT;cases hor with
      | map _ es' _ he=>
       have hg:(getObj T.c).run P W= .ok (.map es' clock) W:=FV ho' (by intro c t f;simp);have hck:∀b,(Instr.checkKey b 10000 kt k').run P W= .ok () W:=fun b=>run_checkKey hkd hc.1 b 9999 k' W
       split at hi
       ·rename_i i v0 hf;obtain⟨v',e1,e2⟩:=(Gm he 0).1 _ _ hf;cases hi
        cases ok with
        | true=>exact⟨.tuple #[v',.bool true],by simp[Instr.lookup,run_underlying hu,hg,hck,run_findKey hkd e1],AM.CL.2 ⟨_,rfl,.cons e2 (.cons (.bool _) .nil)⟩⟩
        | false=>exact⟨v',by simp[Instr.lookup,run_underlying hu,hg,hck,run_findKey hkd e1],e2⟩
       ·rename_i hf;have e1:=(Gm he 0).2 hf;split at hi
        ·rename_i ie hie;split at hi
         ·rename_i z hz;cases hfz:flat z
          ·simp[hfz]at hi
          ·simp only[hfz,cond_true,Option.some.injEq]at hi;subst hi;cases ok with
           | true=>exact⟨.tuple #[z,.bool false],by simp[Instr.lookup,run_underlying hu,hg,hck,run_findKey hkd e1,zeroValue,typeInfo,hie,hz],AM.CL.2 ⟨_,rfl,.cons (Cp hfz) (.cons (.bool _) .nil)⟩⟩
           | false=>exact⟨z,by simp[Instr.lookup,run_underlying hu,hg,hck,run_findKey hkd e1,zeroValue,typeInfo,hie,hz],Cp hfz⟩
         ·cases hi
        ·cases hi
       ·cases hi
   ·cases hi
  ·cases hi
 ·cases hi
theorem S0 {k v k' v':Value} (hk:AM μ k k') (hv:AM μ v v'):∀{es es':List MapEntry} (_:D4 μ es es') (i:Nat),D4 μ (J3 k v i es) (J3 k' v' i es'):=by
 intro es es' h;induction h with
 | nil=>intro i;cases i<;>exact .nil
 | cons h1 h2 h3 ht ih=>
  intro i;cases i with
  | zero=>exact .cons hk hv h3 ht
  | succ i=>exact .cons h1 h2 h3 (ih i)
theorem Jk (k v:Value):∀(es:List MapEntry) (i:Nat),es.modify i (fun e=>{ e with key:=k,val:=v })=J3 k v i es
 | [],i=>by cases i<;>rfl
 | e::r,0=>rfl
 | e::r,i+1=>by simp only[J3,List.modify_succ_cons,Jk k v r i]
theorem D4.snoc {es es':List MapEntry} (h:D4 μ es es') {e e':MapEntry} (hk:AM μ e.key e'.key) (hv:AM μ e.val e'.val) (hb:e.born=e'.born):D4 μ (es++[e]) (es'++[e']):=by
 induction h with
 | nil=>exact .cons hk hv hb .nil
 | cons h1 h2 h3 _ ih=>exact .cons h1 h2 h3 ih
theorem ir {a b:ByteArray} (h:(a==b)=true):a=b:=by
 obtain⟨a⟩:=a;obtain⟨b⟩:=b
 have:(a==b)=true:=h;rw[eq_of_beq this]
theorem aI (a:ByteArray):(a==a)=true:=by
 obtain⟨a⟩:=a;show(a==a)=true;exact beq_self_eq_true a
theorem RS {kd:TypeDesc} (hkk:I7 (some kd)=true) {k:Value}:∀{es:List MapEntry} {i j:Nat} {v:Value},Instr.findNow kd k es i=some (some (j,v))->∃e,es[j - i]? = some e/\i<=j/\Instr.sameBits 10000 e.key k=true:=by
 intro es;induction es with
 | nil=>intro i j v h;cases h
 | cons e es ih=>
  intro i j v h;cases hs:Instr.sameNow kd k e.key with
  | none=>simp[Instr.findNow,hs]at h
  | some b=>
   cases b with
   | true=>
    simp only[Instr.findNow,hs,Option.some.injEq,Prod.mk.injEq]at h;obtain⟨rfl,rfl⟩:=h;refine⟨e,by simp,Nat.le_refl _,?_⟩;unfold Instr.sameNow at hs;split at hs
    ·rename_i a b' heq;split at hs
     ·rename_i hkk2;simp only[Option.some.injEq]at hs;simp only[heq];simp[Instr.sameBits,hkk2,eq_of_beq hs]
     ·cases hs
    ·rename_i heq;simp only[Option.some.injEq]at hs;simp only[heq];simp only[Instr.sameBits,ir hs,aI]
    ·rename_i heq;simp only[Option.some.injEq]at hs;simp only[heq];simp[Instr.sameBits,eq_of_beq hs]
    ·cases hs
   | false=>
    simp only[Instr.findNow,hs]at h;obtain⟨e2,h1,h2,h3⟩:=ih h;refine⟨e2,?_,by omega,h3⟩;rw[show j - i=(j - (i+1))+1 by omega];simpa using h1
theorem Jm (h:AT base W0 μ H W) {t:TypeId} {m m' k k' v v':Value} {H':AA} (hm:AM μ m m') (hk:AM μ k k') (hv:AM μ v v') (hi:He P t m k v H=some H'):
 ∃W',(Instr.mapUpdate t m' k' v').run P W= .ok () W'/\AT base W0 μ H' W'/\Ak μ H μ H':=by
 unfold He at hi;split at hi
 ·rename_i kt et r hu;split at hi
  ·rename_i es clock hget;split at hi
   ·rename_i kd hkd;cases hc:(I7 (some kd)&&flat k)
    ·simp only[hc,cond_false]at hi;cases hi
    ·simp only[hc,cond_true]at hi;simp only[Bool.and_eq_true]at hc;have hke:=FL hc.2 hk;subst hke;cases hm with
     | map _ T hT=>
      obtain⟨o',ho',hor⟩:=h.obj r _ hget T hT;cases hor with
      | map _ es' _ he=>
       have hg:(getObj T.c).run P W= .ok (.map es' clock) W:=FV ho' (by intro c t f;simp);have hck:∀b,(Instr.checkKey b 10000 kt k').run P W= .ok () W:=fun b=>run_checkKey hkd hc.1 b 9999 k' W
       split at hi
       ·rename_i i v0 hf;obtain⟨v1,e1,e2⟩:=(Gm he 0).1 _ _ hf;cases hi
        obtain⟨ent,h1,_,h3⟩:=RS hc.1 e1;have hent:es'[i]? = some ent:=by rw[<-Array.getElem?_toList];simpa using h1
        obtain⟨g1,g2⟩:=h.setObj (o1:= .map (J3 k' v i es) clock) (o1':= .map (es'.modify i fun e=>{ e with key:=k',val:=v' }) clock) hget rfl hT (.map T _ _ clock (by
         rw[Array.toList_modify,Jk];exact S0 hk hv he i))
        refine⟨_,?_,g1,g2⟩;simp[Instr.mapUpdate,run_underlying hu,hg,hck,run_findKey hkd e1,hent,Instr.keyThatStays,h3,D0 (P:=P) ho' (by intro c t f;simp)]
       ·rename_i hf;have e1:=(Gm he 0).2 hf;cases hi
        obtain⟨g1,g2⟩:=h.setObj (o1:= .map (es++[{ key:=k',val:=v,born:=clock }]) (clock+1)) (o1':= .map (es'.push { key:=k',val:=v',born:=clock }) (clock+1)) hget rfl hT (.map T _ _ (clock+1) (by
         rw[Array.toList_push];exact he.snoc hk hv rfl))
        refine⟨_,?_,g1,g2⟩;simp[Instr.mapUpdate,run_underlying hu,hg,hck,run_findKey hkd e1,D0 (P:=P) ho' (by intro c t f;simp)]
       ·cases hi
   ·cases hi
  ·cases hi
 ·cases hi
theorem N6 {x x' v:Value} {xt at':TypeId} {ok:Bool} (hx:AM μ x x') (hi:IU P x at' ok=some v):∃v',(Instr.typeAssert x' xt at' ok).run P W= .ok v' W/\AM μ v v':=by
 unfold IU at hi;split at hi
 ·cases hi
 ·rename_i d t0 v0 hni hu;have hne:∀ms,d≠ .interface ms:=fun ms e=>hni ms e
  cases hx with
  | iface _ _ v1 hv=>
   cases hb:Nat.beq t0 at'
   ·simp only[hb,cond_false]at hi;have hn:¬t0=at':=by intro e;subst e;rw[Nat.beq_refl]at hb;cases hb
    cases ok with
    | false=>cases hi
    | true=>
     simp only[cond_true]at hi;split at hi
     ·rename_i i hie;split at hi
      ·rename_i z hz;cases hf:flat z
       ·simp[hf]at hi
       ·simp only[hf,cond_true,Option.some.injEq]at hi;subst hi;refine⟨.tuple #[z,.bool false],?_,AM.CL.2 ⟨_,rfl,.cons (Cp hf) (.cons (.bool _) .nil)⟩⟩;cases d<;>first | exact absurd rfl (hne _) | simp[Instr.typeAssert,run_underlying hu,hn,zeroValue,typeInfo,hie,hz]
      ·cases hi
     ·cases hi
   ·simp only[hb,cond_true,Option.some.injEq]at hi;have he:=Nat.eq_of_beq_eq_true hb;subst he;subst hi;cases ok with
    | true=>
     refine⟨.tuple #[v1,.bool true],?_,AM.CL.2 ⟨_,rfl,.cons hv (.cons (.bool _) .nil)⟩⟩;cases d<;>first | exact absurd rfl (hne _) | simp[Instr.typeAssert,run_underlying hu]
    | false=>
     refine⟨v1,?_,hv⟩;cases d<;>first | exact absurd rfl (hne _) | simp[Instr.typeAssert,run_underlying hu]
 ·cases hi
end
section
variable {P:Program} {base:Env} {W0:World} {μ:Ai} {H:AA} {W:World}
def HO:Op->Bool
 | .select ..=>true
 | _=>false
def GU (P:Program) (ρ:Operand->Value) (o:Oper) (H:AA):Option (Value × AA):=
 bif o.op.operands.toList.all (fun x=>flat (ρ x))&& !(HO o.op)then
  match KL P (execOp ρ o)with
  | some (.value v)=>bif flat v then some (v,H)else none
  | _=>none
 else none
def DO:Value->Bool
 | .chan _=>false
 | _=>true
def It (P:Program) (ρ:Operand->Value) (o:Oper) (c:Call) (b:Builtin) (H:AA):Option (Value × AA):=
 match b with
 | .append=>PR P c.argTypes (c.args.toList.map ρ) H
 | .copy=>YO P c.argTypes (c.args.toList.map ρ) H
 | .clear=>Sr P c.argTypes (c.args.toList.map ρ) H
 | .len=>match c.argTypes.toList,c.args.toList with
  | t::_,[x]=>match fa P t (ρ x)with
   | some v=>some (v,H)
   | none=>none
  | _,_=>none
 | _=>GU P ρ o H
def MA (P:Program) (ρ:Operand->Value) (o:Oper) (H:AA):Option (Value × AA):=
 match o.op with
 | .move x=>some (ρ x,H)
 | .assign x=>some (ρ x,H)
 | .pick c a b=>match ρ c with
  | .bool t=>some (bif t then ρ a else ρ b,H)
  | _=>none
 | .extract t i=>match ρ t with
  | .tuple vs=>match vs.toList[i]? with
   | some v=>some (v,H)
   | none=>none
  | _=>none
 | .nilCheck x=>match ρ x with
  | .pointer (some a)=>some (.pointer (some a),H)
  | .func (.func f) a b=>some (.func (.func f) a b,H)
  | .func (.yield f) a b=>some (.func (.yield f) a b,H)
  | _=>none
 | .makeFunc fn first captured=>match fn with
  | .yield _=>none
  | fn=>some (.func fn ⟨first.toList.map ρ⟩ ⟨captured.toList.map ρ⟩,H)
 | .makeInterface t x=>match P.underlying t with
  | some (.interface _)=>none
  | some _=>some (.iface t (ρ x),H)
  | none=>none
 | .load t a=>match Kj P t (ρ a) H with
  | some v=>some (v,H)
  | none=>none
 | .store t a x=>match Nx P t (ρ a) (ρ x) H with
  | some H'=>some (Go.undef,H')
  | none=>none
 | .alloc t=>match GO P t with
  | some z=>some (.pointer (some ⟨H.next,0,none⟩),H.alloc (.cells z 0 false))
  | none=>none
 | .box _ x=>bif DO (ρ x)then some (.pointer (some ⟨H.next,0,none⟩),H.alloc (.cells (ρ x).cells.toList 0 false))else none
 | .build t parts=>bif parts.toList.all (fun p=>DO (ρ p.2))then
  match TG P t (parts.toList.map fun p=>(p.1,ρ p.2))with
  | some v=>some (v,H)
  | none=>none
  else none
 | .buildSlice t len parts=>bif Nat.blt len AF&&parts.toList.all (fun p=>DO (ρ p.2))then Ff P t len (parts.toList.map fun p=>(p.1,ρ p.2)) H else none
 | .makeSlice t l c=>Ga P t (ρ l) (ρ c) H
 | .slice t x lo hi mx=>match Hz P t (ρ x) (lo.map ρ) (hi.map ρ) (mx.map ρ) H with
  | some v=>some (v,H)
  | none=>none
 | .fieldAddr s x k=>match Hj P s (ρ x) k with
  | some v=>some (v,H)
  | none=>none
 | .field t x k=>match TV P t (ρ x) k with
  | some v=>some (v,H)
  | none=>none
 | .indexAddr t x i=>match GR P t (ρ x) (ρ i)with
  | some v=>some (v,H)
  | none=>none
 | .index t x i=>match OB P t (ρ x) (ρ i)with
  | some v=>some (v,H)
  | none=>none
 | .range t x=>Sp P t (ρ x) H
 | .next it s=>Ud (ρ it) s H
 | .binOp op t x y _=>match GU P ρ o H with
  | some r=>some r
  | none=>match GL P op t (ρ x) (ρ y)with
   | some v=>some (v,H)
   | none=>none
 | .convert s d x=>match GU P ρ o H with
  | some r=>some r
  | none=>HC P s d (ρ x) H
 | .unOp _ _ _=>GU P ρ o H
 | .makeMap _ r=>Rp (r.map ρ) H
 | .mapUpdate t m k x=>match He P t (ρ m) (ρ k) (ρ x) H with
  | some H'=>some (Go.undef,H')
  | none=>none
 | .insert t m k x=>match He P t (ρ m) (ρ k) (ρ x) H with
  | some H'=>some (Go.undef,H')
  | none=>none
 | .lookup t x k ok=>match QD P t (ρ x) (ρ k) ok H with
  | some v=>some (v,H)
  | none=>none
 | .typeAssert x _ at' ok=>match IU P (ρ x) at' ok with
  | some v=>some (v,H)
  | none=>none
 | .call c=>match c.callee with
  | .builtin b=>It P ρ o c b H
  | _=>none
 | _=>none
def Fin (nx:Next) (v:Value):Prop:=nx= .value v∨(nx= .skip/\v=Go.undef)
def CC (P:Program) (base:Env) (W0:World) (μ:Ai) (H:AA) (W:World) (s:Sem Next) (v:Value) (H':AA):Prop:=
 ∃μ' nx v' W',s.run P W= .ok nx W'/\Fin nx v'/\AT base W0 μ' H' W'/\AM μ' v v'/\Ak μ H μ' H'
theorem CC.value (h:AT base W0 μ H W) {s:Sem Value} {v:Value} (hs:∃v',s.run P W= .ok v' W/\AM μ v v'):CC P base W0 μ H W (do pure (.value (←s))) v H:=by
 obtain⟨v',h1,h2⟩:=hs;exact⟨μ,.value v',v',W,by simp[h1],.inl rfl,h,h2,Ak.refl _ _⟩
theorem CC.Fq {s:Sem Value} {v:Value} {H':AA} (hs:∃μ' v' W',s.run P W= .ok v' W'/\AT base W0 μ' H' W'/\AM μ' v v'/\Ak μ H μ' H'):CC P base W0 μ H W (do pure (.value (←s))) v H':=by
 obtain⟨μ',v',W',h1,h2,h3,h4⟩:=hs;exact⟨μ',.value v',v',W',by simp[h1],.inl rfl,h2,h3,h4⟩
theorem JH (h:AT base W0 μ H W) {ρ ρ':Operand->Value} (hρ:∀x,AM μ (ρ x) (ρ' x)) {o:Oper} {v:Value} {H':AA} (hi:GU P ρ o H=some (v,H')):CC P base W0 μ H W (execOp ρ' o) v H':=by
 unfold GU at hi;cases hc:(o.op.operands.toList.all (fun x=>flat (ρ x))&& !(HO o.op))
 ·simp only[hc,cond_false]at hi;cases hi
 ·simp only[hc,cond_true]at hi;simp only[Bool.and_eq_true,Bool.not_eq_true']at hc;split at hi
  ·rename_i v0 hp;cases hf:flat v0
   ·simp[hf]at hi
   ·simp only[hf,cond_true,Option.some.injEq,Prod.mk.injEq]at hi;obtain⟨rfl,rfl⟩:=hi;have he:execOp ρ' o=execOp ρ o:=by
     refine execOp_congr o (fun cs b e=>?_) fun x hx=>?_
     ·rw[e]at hc;simp[HO]at hc
     ·have:=List.all_eq_true.1 hc.1 x (by simpa using hx);exact FL this (hρ x)
    rw[he];exact⟨μ,.value v0,v0,W,Ll hp W,.inl rfl,h,Cp hf,Ak.refl _ _⟩
  ·cases hi
theorem Jy {v:Value} (h:DO v=true):∀c,v≠ .chan c:=by rintro c rfl;cases h
theorem JG {ρ ρ':Operand->Value} (hρ:∀x,AM μ (ρ x) (ρ' x)):∀(l:List (Nat × Operand)),l.all (fun p=>DO (ρ p.2))=true->Tn μ (l.map fun p=>(p.1,ρ p.2)) (l.map fun p=>(p.1,ρ' p.2))
 | [],_=> .nil
 | (i,x)::l,h=>by
  simp only[List.all_cons,Bool.and_eq_true]at h;exact .cons (hρ x) (Jy h.1) (JG hρ l h.2)
theorem Fz {ρ ρ':Operand->Value} (hρ:∀x,AM μ (ρ x) (ρ' x)) (x:Option Operand):EF μ (x.map ρ) (x.map ρ'):=by
 cases x with
 | none=>exact .none
 | some x=>exact .some (hρ x)
theorem QE (h:AT base W0 μ H W) {ρ ρ':Operand->Value} (hρ:∀x,AM μ (ρ x) (ρ' x)) {o:Oper} {c:Call} {b:Builtin} (ho:o.op= .call c) (hcal:c.callee= .builtin b) {v:Value} {H':AA} (hi:It P ρ o c b H=some (v,H')):
 CC P base W0 μ H W (execOp ρ' o) v H':=by
 have hargs:BD μ (c.args.toList.map ρ) (c.args.map ρ').toList:=by
  rw[Array.toList_map];exact BD.map _ _ _ fun x _=>hρ x
 obtain⟨cst,hex⟩:∃cst,execOp ρ' o=builtin b c.argTypes o.type cst (c.args.map ρ'):=by
  simp only[execOp,ho,resolve,hcal];exact⟨_,rfl⟩
 unfold It at hi;split at hi
 ·rw[hex];exact CC.Fq (TC h hargs hi)
 ·rw[hex];obtain⟨v',W',h1,h2,h3,h4⟩:=X5 (P:=P) (ty:=o.type) h hargs hi;exact CC.Fq ⟨μ,v',W',h1,h2,h3,h4⟩
 ·rw[hex];obtain⟨v',W',h1,h2,h3,h4⟩:=WS (P:=P) (ty:=o.type) h hargs hi;exact CC.Fq ⟨μ,v',W',h1,h2,h3,h4⟩
 ·rw[hex];split at hi
  ·rename_i t _ x ht hx;split at hi
   ·rename_i v0 hl;cases hi
    have ht0:c.argTypes[0]? = some t:=by rw[<-Array.getElem?_toList,ht];rfl
    have ha:c.args.map ρ'=#[ρ' x]:=by rw[<-Array.toList_inj,Array.toList_map,hx];rfl
    obtain⟨r1,n,r2⟩:=cJ (P:=P) (W:=W) (ty:=o.type) (hρ x) ht0 hl;rw[ha];subst r2;exact CC.value h ⟨_,r1,.int _ _⟩
   ·cases hi
  ·cases hi
 ·exact JH h hρ hi
theorem Wt (h:AT base W0 μ H W) {ρ ρ':Operand->Value} (hρ:∀x,AM μ (ρ x) (ρ' x)) {o:Oper} {v:Value} {H':AA} (hi:MA P ρ o H=some (v,H')):CC P base W0 μ H W (execOp ρ' o) v H':=by
 unfold MA at hi;split at hi
 ·rename_i x ho;cases hi
  exact⟨μ,.value (ρ' x),ρ' x,W,by simp[execOp,ho],.inl rfl,h,hρ x,Ak.refl _ _⟩
 ·rename_i x ho;cases hi
  exact⟨μ,.value (ρ' x),ρ' x,W,by simp[execOp,ho],.inl rfl,h,hρ x,Ak.refl _ _⟩
 ·rename_i c a b ho;split at hi
  ·rename_i t hc;cases hi
   have hc':ρ' c= .bool t:=by
    have hq:=hρ c;rw[hc]at hq;generalize ρ' c=q at hq ⊢;cases hq;rfl
   refine⟨μ,.value (if t then ρ' a else ρ' b),_,W,by simp[execOp,ho,hc',asBool],.inl rfl,h,?_,Ak.refl _ _⟩;cases t
   ·exact hρ b
   ·exact hρ a
  ·cases hi
 ·rename_i t i ho;split at hi
  ·rename_i vs hvs;split at hi
   ·rename_i v0 hv0;cases hi
    have hr:=hρ t;rw[hvs]at hr;obtain⟨vs',he,hl⟩:=AM.CL.1 hr;obtain⟨v',h1,h2⟩:=hl.get? hv0;rw[Array.getElem?_toList]at h1;exact⟨μ,.value v',v',W,by simp[execOp,ho,he,Instr.extract,h1],.inl rfl,h,h2,Ak.refl _ _⟩
   ·cases hi
  ·cases hi
 ·rename_i x ho;have hr:=hρ x;split at hi
  ·rename_i a ha;cases hi
   rw[ha]at hr;generalize hq:ρ' x=q at hr;cases hr with
   | ptr b o T hm=>exact⟨μ,_,_,W,by simp only[execOp,ho,hq];rfl,.inl rfl,h,.ptr b o T hm,Ak.refl _ _⟩
   | Gt b o i T hm=>exact⟨μ,_,_,W,by simp only[execOp,ho,hq];rfl,.inl rfl,h,.Gt b o i T hm,Ak.refl _ _⟩
  ·rename_i f a b ha;cases hi
   rw[ha]at hr;obtain⟨fn',xs',ys',he,hf,hx1,hy1⟩:=AM.CX.1 hr;cases hf
   exact⟨μ,_,_,W,by simp only[execOp,ho,he];rfl,.inl rfl,h,AM.CX.2 ⟨_,_,_,rfl,.func f,hx1,hy1⟩,Ak.refl _ _⟩
  ·rename_i f a b ha;cases hi
   rw[ha]at hr;obtain⟨fn',xs',ys',he,hf,hx1,hy1⟩:=AM.CX.1 hr;cases hf with
   | yield _ T hm=>exact⟨μ,_,_,W,by simp only[execOp,ho,he];rfl,.inl rfl,h,AM.CX.2 ⟨_,_,_,rfl,.yield f T hm,hx1,hy1⟩,Ak.refl _ _⟩
  ·cases hi
 ·rename_i fn first captured ho;have hl1:BD μ (first.toList.map ρ) (first.map ρ').toList:=by rw[Array.toList_map];exact BD.map _ _ _ fun x _=>hρ x
  have hl2:BD μ (captured.toList.map ρ) (captured.map ρ').toList:=by rw[Array.toList_map];exact BD.map _ _ _ fun x _=>hρ x
  split at hi
  ·cases hi
  ·rename_i hny;cases hi
   have hfn:Gp μ fn fn:=by
    cases fn with
    | func f=>exact .func f
    | method n=>exact .method n
    | methodOf t n=>exact .methodOf t n
    | via t p f b=>exact .via t p f b
    | yield l=>exact absurd rfl (hny l)
   exact⟨μ,.value (.func fn (first.map ρ') (captured.map ρ')),_,W,by simp[execOp,ho,Instr.makeFunc],.inl rfl,h,AM.CX.2 ⟨_,_,_,rfl,hfn,hl1,hl2⟩,Ak.refl _ _⟩
 ·rename_i t x ho;split at hi
  ·cases hi
  ·rename_i d hni hu;cases hi
   refine⟨μ,.value (.iface t (ρ' x)),_,W,?_,.inl rfl,h,.iface _ _ _ (hρ x),Ak.refl _ _⟩;have hne:∀ms,d≠ .interface ms:=fun ms e=>hni ms e
   cases d<;>first | exact absurd rfl (hne _) | simp[execOp,ho,Instr.makeInterface,run_underlying hu]
  ·cases hi
 ·rename_i t a ho;split at hi
  ·rename_i v0 hl;cases hi
   have he:execOp ρ' o=(do pure (.value (←Instr.loadAt t (ρ' a)))):=by simp only[execOp,ho]
   rw[he];exact CC.value h (M6 h (hρ a) hl)
  ·cases hi
 ·rename_i t a x ho;split at hi
  ·rename_i H1 hs;cases hi
   obtain⟨W',h1,h2,h3⟩:=Ol (P:=P) h (hρ a) (hρ x) hs;exact⟨μ,.skip,Go.undef,W',by simp[execOp,ho,h1],.inr ⟨rfl,rfl⟩,h2,AM.undef μ,h3⟩
  ·cases hi
 ·rename_i t ho;split at hi
  ·rename_i z hz;cases hi
   obtain⟨zz,r1,r2,r3⟩:=Et hz W;have hl:BD μ z zz.cells.toList:=by rw[<-r3];exact GG r2
   obtain⟨g1,g2⟩:=h.alloc rfl (DN W.heap.size 0 t hl);refine⟨_,.value (.pointer (some ⟨W.heap.size,0,none⟩)),_,_,?_,.inl rfl,g1,JF ⟨W.heap.size,0,zz.cells.size,0⟩ _ rfl,g2⟩;simp[execOp,ho,Instr.alloc,r1,newVar,newRow]
  ·cases hi
 ·rename_i t x ho;cases hn:DO (ρ x)
  ·simp[hn]at hi
  ·simp only[hn,cond_true,Option.some.injEq,Prod.mk.injEq]at hi;obtain⟨rfl,rfl⟩:=hi;have hl:=HQ (hρ x) (Jy hn);obtain⟨g1,g2⟩:=h.alloc rfl (DN W.heap.size 0 t hl);refine⟨_,.value (.pointer (some ⟨W.heap.size,0,none⟩)),_,_,?_,.inl rfl,g1,JF ⟨W.heap.size,0,(ρ' x).cells.size,0⟩ _ rfl,g2⟩;simp[execOp,ho,Instr.box,newVar,newRow]
 ·rename_i t parts ho;cases hn:parts.toList.all (fun p=>DO (ρ p.2))
  ·simp only[hn,cond_false]at hi;cases hi
  ·simp only[hn,cond_true]at hi;split at hi
   ·rename_i v0 hb;cases hi
    have he:execOp ρ' o=(do pure (.value (←Instr.build t (parts.map fun(i,x)=>(i,ρ' x))))):=by simp only[execOp,ho]
    rw[he];exact CC.value h (V1 (JG hρ _ hn) hb _ (by rw[Array.toList_map]))
   ·cases hi
 ·rename_i t len parts ho;cases hn:(Nat.blt len AF&&parts.toList.all (fun p=>DO (ρ p.2)))
  ·simp only[hn,cond_false]at hi;cases hi
  ·simp only[hn,cond_true]at hi;simp only[Bool.and_eq_true]at hn;have he:execOp ρ' o=(do pure (.value (←Instr.buildSlice t len (parts.map fun(i,x)=>(i,ρ' x))))):=by simp only[execOp,ho]
   rw[he];exact CC.Fq (NQ h (JG hρ _ hn.2) hi _ (by rw[Array.toList_map]) (Nat.le_of_ble_eq_true hn.1))
 ·rename_i t l c ho;have he:execOp ρ' o=(do pure (.value (←Instr.makeSlice t (ρ' l) (ρ' c)))):=by simp only[execOp,ho]
  rw[he];exact CC.Fq (OR h (hρ l) (hρ c) hi)
 ·rename_i t x lo hi2 mx ho;split at hi
  ·rename_i v0 hs;cases hi
   have he:execOp ρ' o=(do pure (.value (←Instr.sliceAt t (ρ' x) (lo.map ρ') (hi2.map ρ') (mx.map ρ')))):=by simp only[execOp,ho]
   rw[he];exact CC.value h (JO h (hρ x) (Fz hρ lo) (Fz hρ hi2) (Fz hρ mx) hs)
  ·cases hi
 ·rename_i s x k ho;split at hi
  ·rename_i v0 hs;cases hi
   have he:execOp ρ' o=(do pure (.value (←Instr.fieldAt s (ρ' x) k))):=by simp only[execOp,ho]
   rw[he];exact CC.value h (Jn (hρ x) hs)
  ·cases hi
 ·rename_i s x k ho;split at hi
  ·rename_i v0 hs;cases hi
   have he:execOp ρ' o=(do pure (.value (←Instr.field s (ρ' x) k))):=by simp only[execOp,ho]
   rw[he];exact CC.value h (U4 (hρ x) hs)
  ·cases hi
 ·rename_i s x k ho;split at hi
  ·rename_i v0 hs;cases hi
   have he:execOp ρ' o=(do pure (.value (←Instr.indexAt s (ρ' x) (ρ' k)))):=by simp only[execOp,ho]
   rw[he];exact CC.value h (Gu (hρ x) (hρ k) hs)
  ·cases hi
 ·rename_i s x k ho;split at hi
  ·rename_i v0 hs;cases hi
   have he:execOp ρ' o=(do pure (.value (←Instr.index s (ρ' x) (ρ' k)))):=by simp only[execOp,ho]
   rw[he];exact CC.value h (K7 (hρ x) (hρ k) hs)
  ·cases hi
 ·rename_i t x ho;have he:execOp ρ' o=(do pure (.value (←Instr.range t (ρ' x)))):=by simp only[execOp,ho]
  rw[he];exact CC.Fq (V7 h (hρ x) hi)
 ·rename_i it s ho;have he:execOp ρ' o=(do pure (.value (←Instr.next (ρ' it) s o.type))):=by simp only[execOp,ho]
  rw[he];obtain⟨v',W',h1,h2,h3,h4⟩:=SH (P:=P) (ty:=o.type) h (hρ it) hi;exact CC.Fq ⟨μ,v',W',h1,h2,h3,h4⟩
 ·rename_i op t x y yt ho;split at hi
  ·rename_i r hr;cases hi
   exact JH h hρ hr
  ·split at hi
   ·rename_i v0 he;cases hi
    have he':GL P op t (ρ' x) (ρ' y)=some v:=by
     unfold GL at he ⊢;cases h2:El (ρ x) (ρ y)
     case true=>rw[h2]at he;cases he
     rw[h2,cond_false]at he;cases ha:Bk (ρ x) (P.underlying t)with
     | none=>simp[ha]at he
     | some p=>
      cases hb:Bk (ρ y) (P.underlying t)with
      | none=>simp[ha,hb]at he
      | some q=>
       rw[Tj (hρ x) (hρ y) ha hb h2,Lj (hρ x) ha,Lj (hρ y) hb,cond_false];rw[ha,hb]at he;exact he
    have hfl:∃b,v= .bool b:=by
     unfold GL at he;cases h2:El (ρ x) (ρ y)
     case true=>rw[h2]at he;cases he
     rw[h2,cond_false]at he;split at he
     ·rename_i p q _ _;cases hpq:(p||q)
      ·simp[hpq]at he
      ·simp only[hpq,cond_true]at he;split at he<;>first | (cases he;exact⟨_,rfl⟩) | cases he
     ·cases he
    obtain⟨b,rfl⟩:=hfl;have hex:execOp ρ' o=(do pure (.value (←(do eqGuard op t x y (ρ' x) (ρ' y);binOp op t (ρ' x) (ρ' y))))):=by simp only[execOp,ho]
    rw[hex];exact CC.value h ⟨_,La he' W,.bool _⟩
   ·cases hi
 ·rename_i s d x ho;split at hi
  ·rename_i r hr;cases hi
   exact JH h hρ hr
  ·have he:execOp ρ' o=(do pure (.value (←convert s d (ρ' x)))):=by simp only[execOp,ho]
   rw[he];exact CC.Fq (Ie h (hρ x) hi)
 ·exact JH h hρ hi
 ·rename_i t r ho;cases r with
  | some r=>cases hi
  | none=>
   simp only[Option.map_none,Rp]at hi;cases hi
   obtain⟨g1,g2⟩:=h.alloc (T:=⟨W.heap.size,0,0,0⟩) (o:= .map [] 0) (o':= .map #[] 0) rfl (.map _ [] #[] 0 .nil);exact⟨_,.value (.map (some W.heap.size)),_,_,by simp[execOp,ho,Instr.makeMap,newObj];rfl,.inl rfl,g1,.map _ ⟨W.heap.size,0,0,0⟩ (Ai.Av _ _ _),g2⟩
 ·rename_i t m k x ho;split at hi
  ·rename_i H1 hs;cases hi
   obtain⟨W',h1,h2,h3⟩:=Jm (P:=P) h (hρ m) (hρ k) (hρ x) hs;exact⟨μ,.skip,Go.undef,W',by simp[execOp,ho,h1],.inr ⟨rfl,rfl⟩,h2,AM.undef μ,h3⟩
  ·cases hi
 ·rename_i t m k x ho;split at hi
  ·rename_i H1 hs;cases hi
   obtain⟨W',h1,h2,h3⟩:=Jm (P:=P) h (hρ m) (hρ k) (hρ x) hs;exact⟨μ,.skip,Go.undef,W',by simp[execOp,ho,h1],.inr ⟨rfl,rfl⟩,h2,AM.undef μ,h3⟩
  ·cases hi
 ·rename_i t x k ok ho;split at hi
  ·rename_i v0 hs;cases hi
   have he:execOp ρ' o=(do pure (.value (←Instr.lookup t (ρ' x) (ρ' k) ok))):=by simp only[execOp,ho]
   rw[he];exact CC.value h (TB h (hρ x) (hρ k) hs)
  ·cases hi
 ·rename_i x xt at' ok ho;split at hi
  ·rename_i v0 hs;cases hi
   have he:execOp ρ' o=(do pure (.value (←Instr.typeAssert (ρ' x) xt at' ok))):=by simp only[execOp,ho]
   rw[he];exact CC.value h (N6 (hρ x) hs)
  ·cases hi
 ·rename_i c ho;split at hi
  ·rename_i b hb;exact QE h hρ ho hb hi
  ·cases hi
 ·cases hi
end
end Go.AI
