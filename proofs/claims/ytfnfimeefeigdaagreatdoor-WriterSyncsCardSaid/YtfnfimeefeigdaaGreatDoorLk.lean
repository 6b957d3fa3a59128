/-
  Part of the proof: the machine that runs a program by fixed orders, and that each of its runs is a run of the model; or a run of it in parts. No conditions.
-/
import Derived.Test.YtfnfimeefeigdaaGreatDoorAbr
noncomputable section
set_option maxRecDepth 1000000
namespace Go.AD
open Go.Proofs
theorem Ci.vv {f:FuncId} {muts:List Bool} {G G':AL->BN->GT} {l:List GA} (h:CY Tryz.prog AI f (Ai AI 20 muts G)) (hG:∀a o x,(G' a o).run=some x->(G a o).run=some x) (t:Ci l):Ci ((f,Ai AI 20 muts G,Cs AI 20 muts G')::l):=by
 refine .other h (fun X g hX args H K hk=>?_) t;have hctx:(⟨X.P,X.laid,fun _=>some (Ai AI 20 muts G'),X.BJ⟩:Ctx).IN g=some (Ai AI 20 muts G'):=rfl;obtain⟨v,H',h1,h2⟩:=Gq hctx hk;refine⟨v,H',?_,h2⟩;unfold CP at h1 ⊢;simp only[hX]at h1 ⊢;exact LL hG h1
def ZB (args:AL) (objs:BN):GT:=
 match args,objs with
 | [.int .i64 n],[]=> .ask (1<=n/\n<=8192) (.ret ⟨.tuple ⟨[At 20,int 0]⟩,[],[.abs (.pack (.CJ ⟨n,0,[]⟩)) false]⟩)
 | _,_=> .fail
theorem Yj:∀a o x,(ZB a o).run=some x->(OL a o).run=some x:=by
 intro a o x hx;unfold ZB at hx;unfold OL;split at hx
 ·rename_i n;simp only[GT.run]at hx;split at hx
  ·rename_i h;have:(decide (n < 1)||decide (n > 8192))=false:=by simp only[xp,kV];omega
   simp only[GT.run,this,EB];exact hx
  ·cases hx
 ·cases hx
def cW:List GA:=[(DJ,Ai AI 20 [] OL,Cs AI 20 [] ZB),GQ E1 [] gx]
theorem yc:Ci cW:= .vv TO Yj (.cons jv .nil)
abbrev XW:Ctx:=Bp Tryz.prog AI (Cv cW)
def Ny (n:Nat):Nat:=30+3 * n
def dq (n:Nat):AW:=(List.range (n+2)).map fun i=>25+3 * i
def nf (n:Nat) (s:Int):Ad:=List.replicate n s++[64,64]
def jx (K:Prop):Ad->Prop
 | []=>K
 | a::l=>(1<=a/\a<=8192)/\jx K l
def xx (K:Prop):AW->Prop
 | []=>K
 | a::l=>(int a=int a)/\xx K l
def yz (n:Nat):AW:=[1,2,4,8,16].filter fun k=>Nat.blt k n
def xY (n:Nat) (s:Int):LR:=some (.cells [.slice (some ⟨Ny n,0,none⟩) (n+2) (Aa+(n+2))] 0 false)::some (.cells ((dq n).map At) 1 false)::some (.abs (.pack (.timer none)) false)::
 ((nf n s).map (fun a=>some (.abs (.pack (.CJ ⟨a,0,[]⟩)) false))++[some (ND 24 (Ny n+1) n 0 false)])
theorem fV (n:Nat) (h2:2<=n) (h32:n<=32) (s:Int) (Q:Bm):CU XW (Ax cW) [] EL (24::Ny n::(Ny n+1)::dq n) 20 Q 8000 (st EL [int n,int s] (hp []))=
 xx (jx (Q (.tuple ⟨[At (Ny n+2),int 0]⟩) (xY n s)) (nf n s)) (yz n):=
 match n,h2,h32 with
 | 0,h,_=>absurd h (by decide)
 | 1,h,_=>absurd h (by decide)
 | 2,_,_=>by kernel_rfl
 | 3,_,_=>by kernel_rfl
 | 4,_,_=>by kernel_rfl
 | 5,_,_=>by kernel_rfl
 | 6,_,_=>by kernel_rfl
 | 7,_,_=>by kernel_rfl
 | 8,_,_=>by kernel_rfl
 | 9,_,_=>by kernel_rfl
 | 10,_,_=>by kernel_rfl
 | 11,_,_=>by kernel_rfl
 | 12,_,_=>by kernel_rfl
 | 13,_,_=>by kernel_rfl
 | 14,_,_=>by kernel_rfl
 | 15,_,_=>by kernel_rfl
 | 16,_,_=>by kernel_rfl
 | 17,_,_=>by kernel_rfl
 | 18,_,_=>by kernel_rfl
 | 19,_,_=>by kernel_rfl
 | 20,_,_=>by kernel_rfl
 | 21,_,_=>by kernel_rfl
 | 22,_,_=>by kernel_rfl
 | 23,_,_=>by kernel_rfl
 | 24,_,_=>by kernel_rfl
 | 25,_,_=>by kernel_rfl
 | 26,_,_=>by kernel_rfl
 | 27,_,_=>by kernel_rfl
 | 28,_,_=>by kernel_rfl
 | 29,_,_=>by kernel_rfl
 | 30,_,_=>by kernel_rfl
 | 31,_,_=>by kernel_rfl
 | 32,_,_=>by kernel_rfl
 | n+33,_,h=>absurd h (by omega)
end Go.AD
