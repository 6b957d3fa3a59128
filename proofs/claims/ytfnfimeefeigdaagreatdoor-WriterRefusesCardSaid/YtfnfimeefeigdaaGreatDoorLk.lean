/-
  Part of the proof: fixed runs of a program. No conditions.
-/
import Derived.Test.YtfnfimeefeigdaaGreatDoorAbr
noncomputable section
set_option maxRecDepth 1000000
namespace Go.AB
open Go.Proofs
theorem Ct.yd{f:FuncId}{muts:List Bool}{G G':AL->Ay->GT}{l:List Gc}(h:CH Tryz.prog AG f (Ab AG 20 muts G))(hG:∀a o x,(G' a o).run=some x->(G a o).run=some x)(t:Ct l):Ct ((f,Ab AG 20 muts G,De AG 20 muts G')::l):=by
 refine .other h (fun X g hX args H K hk=>?_) t;have hctx:(⟨X.P,X.laid,fun _=>some (Ab AG 20 muts G'),X.BP⟩:Ctx).Hp g=some (Ab AG 20 muts G'):=rfl;obtain⟨v,H',h1,h2⟩:=Gh hctx hk;refine⟨v,H',?_,h2⟩;unfold B3 at h1 ⊢;simp only[hX]at h1 ⊢;exact LB hG h1
def Yi(args:AL)(objs:Ay):GT:=
 match args,objs with
 | [.int .i64 n],[]=> .ask (1<=n/\n<=8192) (.ret ⟨.tuple ⟨[Al 20,int 0]⟩,[],[.abs (.pack (.EW ⟨n,0,[]⟩)) false]⟩)
 | _,_=> .fail
theorem Y7:∀a o x,(Yi a o).run=some x->(N3 a o).run=some x:=by
 intro a o x hx;unfold Yi at hx;unfold N3;split at hx
 .rename_i n;simp only[GT.run]at hx;split at hx
  .rename_i h;have:(decide (n < 1)||decide (n > 8192))=false:=by simp only[ABk,ABE];omega
   simp only[GT.run,this,AAR];exact hx
  .cases hx
 .cases hx
def cW:List Gc:=[(Dk,Ab AG 20 [] N3,De AG 20 [] Yi),EX FP [] jy]
theorem okW:Ct cW:= .yd SY Y7 (.cons iA .nil)
abbrev XW:Ctx:=BY Tryz.prog AG (C8 cW)
def Nn(n:Nat):Nat:=30+3 * n
def db(n:Nat):AP:=(List.range (n+2)).map fun i=>25+3 * i
def eV(n:Nat)(s:Int):Au:=List.replicate n s++[64,64]
def jG(K:Prop):Au->Prop
 | []=>K
 | a::l=>(1<=a/\a<=8192)/\jG K l
def dnE(K:Prop):AP->Prop
 | []=>K
 | a::l=>(int a=int a)/\dnE K l
def dnP(n:Nat):AP:=[1,2,4,8,16].filter fun k=>Nat.blt k n
def zI(n:Nat)(s:Int):J9:=some (.cells [.slice (some ⟨Nn n,0,none⟩) (n+2) (AT+(n+2))] 0 false)::some (.cells ((db n).map Al) 1 false)::some (.abs (.pack (.timer none)) false)::
 ((eV n s).map (fun a=>some (.abs (.pack (.EW ⟨a,0,[]⟩)) false))++[some (PO 24 (Nn n+1) n 0 false)])
theorem kM(n:Nat)(h2:2<=n)(h32:n<=32)(s:Int)(Q:Bz):Bu XW (As cW) [] Eh (24::Nn n::(Nn n+1)::db n) 20 Q 8000 (st Eh [int n,int s] (hp []))=
 dnE (jG (Q (.tuple ⟨[Al (Nn n+2),int 0]⟩) (zI n s)) (eV n s)) (dnP n):=
 match n,h2,h32 with
 | 0,h,_=>absurd h (by decide)
 | 1,h,_=>absurd h (by decide)
 | 2,_,_=>by kernel_rfl
 | 3,_,_=>by kernel_rfl
 | 4,_,_=>by kernel_rfl
 | 5,_,_=>by kernel_rfl
 | 6,_,_=>by kernel_rfl
 | 7,_,_=>by kernel_rfl
 | 8,_,_=>by kernel_rfl
 | 9,_,_=>by kernel_rfl
 | 10,_,_=>by kernel_rfl
 | 11,_,_=>by kernel_rfl
 | 12,_,_=>by kernel_rfl
 | 13,_,_=>by kernel_rfl
 | 14,_,_=>by kernel_rfl
 | 15,_,_=>by kernel_rfl
 | 16,_,_=>by kernel_rfl
 | 17,_,_=>by kernel_rfl
 | 18,_,_=>by kernel_rfl
 | 19,_,_=>by kernel_rfl
 | 20,_,_=>by kernel_rfl
 | 21,_,_=>by kernel_rfl
 | 22,_,_=>by kernel_rfl
 | 23,_,_=>by kernel_rfl
 | 24,_,_=>by kernel_rfl
 | 25,_,_=>by kernel_rfl
 | 26,_,_=>by kernel_rfl
 | 27,_,_=>by kernel_rfl
 | 28,_,_=>by kernel_rfl
 | 29,_,_=>by kernel_rfl
 | 30,_,_=>by kernel_rfl
 | 31,_,_=>by kernel_rfl
 | 32,_,_=>by kernel_rfl
 | n+33,_,h=>absurd h (by omega)
end Go.AB
