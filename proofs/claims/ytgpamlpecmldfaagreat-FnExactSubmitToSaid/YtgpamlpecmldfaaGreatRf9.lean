import Derived.Test.YtgpamlpecmldfaaGreatRf8
import Derived.Lib.ItoaNum
set_option linter.all false
open Bool renaming and_eq_true → Rbu, false_eq_true → Sbb, not_eq_true' → Sbl, or_eq_true → Tbk, true_and → Ube, false_and → Ubk, and_true → Ubm, true_or → Uby, or_false → Ub7, or_true → Vbe
open List renaming getElem?_eq_some_iff → Rbw, mem_append_left → Rbx, mem_singleton → Rby, mem_append_right → Rb0, append_assoc → Rb3, mem_cons → Rb4, getD_eq_getElem?_getD → Rb5, mem_cons_of_mem → Rb7, length_append → Rb8, mem_append → Sbd, mem_cons_self → Sbe, replicate → Sbi, length_cons → Sbm, length_take → Sbn, all_eq_true → Sbp, length_map → Sbr, mem_map → Sb7, length_drop → Sb8, mem_iff_getElem? → Tbe, mem_iff_getElem → Tbg, mem_map_of_mem → Tbi, mem_of_mem_drop → Tbn, drop_eq_getElem_cons → Tbp, getElem_mem → Tbq, pairwise_cons → Tbu, take_append_drop → Tbx, length_replicate → Tbz, any_eq_false → Tb1, pairwise_iff_getElem → Tb2, any_eq_true → Tb7, mem_filter → Tb8, foldl_cons → Uba, map_append → Ubg, mem_of_mem_take → Ubh, mem_range → Ub1, getElem_append_left → Vbc, takeWhile_cons → Vbh, range → Vbk, mem_flatMap → Vbm
open List.cons renaming injEq → Tbj
open Nat renaming le_refl → Sbg, lt_or_ge → Sbh, le_trans → Sb1
namespace Go.Proofs.YtgpamlpecmldfaaGreat.Rf
theorem Kav (ds:List D)(h:WTs [.int .i64] ds):∃ x:Int,ds=Enc.enc x/\True:=by
 simp only[WTs]at h;obtain⟨d,r,rfl,w,rfl⟩:=h;obtain⟨x,rfl,-,-⟩:=gF w;exact⟨x,rfl,trivial⟩
def Gai (x:kP):Nat:=1+1+1+1+1
theorem Kaw (x:kP):Gai x=5:=by
 unfold Gai
 try omega
def aM (x:cZ):Nat:=szL (fun _=>0) x.deps
def yR (x:cZ):Prop:=(x.deps.length<=140737488351232)
def wQ (x:cZ):Nat:=1+ctL (fun _=>1) x.deps
theorem Gag (x:cZ):wQ x=1+ctL (fun _=>1) x.deps:=by
 unfold wQ
 try omega
theorem Eaw (x:cZ):aM x=x.deps.length:=by
 unfold aM;simp only[jB]
 try omega
def aH (x:bD):Nat:=aM x.attr
def mW (x:bD):Prop:=(yR x.attr)
def aY (x:bD):Nat:=1+1+1+Gai x.cmd+wQ x.attr
def jP (x:bD)(k:Int):bD:=⟨(k),(k+1),(k+1+1),⟨(k+1+1+1),(k+1+1+1+1),(k+1+1+1+1+1),(k+1+1+1+1+1+1),(k+1+1+1+1+1+1+1)⟩,⟨(k+1+1+1+1+1+1+1+1),(mkL (fun _=>1) (fun _ k=>k) x.attr.deps (k+1+1+1+1+1+1+1+1+1))⟩⟩
theorem Aa4 (x:bD):aY x=9+ctL (fun _=>1) x.attr.deps:=by
 unfold aY;simp only[Kaw];simp only[Gag]
 try omega
theorem Jaj (x:bD):aH x=x.attr.deps.length:=by
 unfold aH;simp only[jB,Eaw]
 try omega
theorem Kax (x:bD):aY x<=16+16*aH x:=by
 have h0:=oN (c:=(fun _=>1)) (f:=(fun _=>0)) (m:=16) (by omega) (fun _=>by simp) x.attr.deps;rw[Aa4,Jaj]
 try simp only[jB]at *
 omega
theorem Ra4 (ds:List D)(h:WTs [.int .i64,.int .i64,.int .i64,.int .i64,.int .i64,.int .i64,.int .i64,.int .i64,.int .i64,.sl 8 [.int .i64]] ds):∃ x:bD,ds=Enc.enc x/\mW x:=by
 simp only[WTs]at h;obtain⟨d0,r0,rfl,w0,d1,r1,rfl,w1,d2,r2,rfl,w2,d3,r3,rfl,w3,d4,r4,rfl,w4,d5,r5,rfl,w5,d6,r6,rfl,w6,d7,r7,rfl,w7,d8,r8,rfl,w8,d9,r9,rfl,w9,rfl⟩:=h;obtain⟨x0,rfl,-,-⟩:=gF w0;obtain⟨x1,rfl,-,-⟩:=gF w1;obtain⟨x2,rfl,-,-⟩:=gF w2;obtain⟨x3,rfl,-,-⟩:=gF w3;obtain⟨x4,rfl,-,-⟩:=gF w4;obtain⟨x5,rfl,-,-⟩:=gF w5;obtain⟨x6,rfl,-,-⟩:=gF w6;obtain⟨x7,rfl,-,-⟩:=gF w7;obtain⟨x8,rfl,-,-⟩:=gF w8;obtain⟨x9,rfl,l9,p9⟩:=Oah (α:=Int) (P:=fun _=>True) rfl Kav w9;exact⟨⟨x0,x1,x2,⟨x3,x4,x5,x6,x7⟩,⟨x8,x9⟩⟩,rfl,lK l9 (by decide)⟩
theorem Xat (ds:List D)(h:WTs [.sl 96 [.int .i64,.int .i64,.int .i64,.int .i64,.int .i64,.int .i64,.int .i64,.int .i64,.int .i64,.sl 8 [.int .i64]]] ds):∃ x:(List bD),ds=Enc.enc x/\x.length<=140737488351232/\∀ y0∈x,mW y0:=by
 simp only[WTs]at h;obtain⟨d,r,rfl,w,rfl⟩:=h;obtain⟨x,rfl,l,p⟩:=Oah (α:=bD) (P:=fun y=>mW y) rfl Ra4 w;exact⟨x,rfl,⟨lK l (by decide),p⟩⟩
def bJ (x:aT):Nat:=szL (szL aH) x.rows
def Eao (x:aT):Prop:=(x.rows.length<=140737488351232/\∀ y0∈x.rows,y0.length<=140737488351232/\∀ y1∈y0,mW y1)
theorem Hay (x:aT):bJ x=szL (szL aH) x.rows:=by
 unfold bJ;simp only[jB]
 try omega
def aL (x:aR):Nat:=aM x.first+aM x.attr+szL (fun _=>0) x.who+szL aH x.seen
def vQ (x:aR):Prop:=(yR x.first)/\(yR x.attr)/\(x.who.length<=140737488351232)/\(x.seen.length<=140737488351232/\∀ y0∈x.seen,mW y0)
def dC (x:aR):Nat:=1+1+1+1+Gai x.cmd+wQ x.first+wQ x.attr+1+ctL (fun _=>1) x.who+ctL aY x.seen
def oF (x:aR)(k:Int):aR:=⟨(k),(k+1),(k+1+1),(k+1+1+1),⟨(k+1+1+1+1),(k+1+1+1+1+1),(k+1+1+1+1+1+1),(k+1+1+1+1+1+1+1),(k+1+1+1+1+1+1+1+1)⟩,⟨(k+1+1+1+1+1+1+1+1+1),(mkL (fun _=>1) (fun _ k=>k) x.first.deps (k+1+1+1+1+1+1+1+1+1+1))⟩,⟨(k+1+1+1+1+1+1+1+1+1+1+(ctL (fun _=>1) x.first.deps:Nat)),(mkL (fun _=>1) (fun _ k=>k) x.attr.deps (k+1+1+1+1+1+1+1+1+1+1+(ctL (fun _=>1) x.first.deps:Nat)+1))⟩,((k+1+1+1+1+1+1+1+1+1+1+(ctL (fun _=>1) x.first.deps:Nat)+1+(ctL (fun _=>1) x.attr.deps:Nat)) % 3==0),(mkL (fun _=>1) (fun _ k=>k) x.who (k+1+1+1+1+1+1+1+1+1+1+(ctL (fun _=>1) x.first.deps:Nat)+1+(ctL (fun _=>1) x.attr.deps:Nat)+1)),(mkL aY jP x.seen (k+1+1+1+1+1+1+1+1+1+1+(ctL (fun _=>1) x.first.deps:Nat)+1+(ctL (fun _=>1) x.attr.deps:Nat)+1+(ctL (fun _=>1) x.who:Nat)))⟩
theorem vE (x:aR):dC x=12+ctL (fun _=>1) x.first.deps+ctL (fun _=>1) x.attr.deps+ctL (fun _=>1) x.who+ctL aY x.seen:=by
 unfold dC;simp only[Kaw];simp only[Gag]
 try omega
theorem tV (x:aR):aL x=x.first.deps.length+x.attr.deps.length+x.who.length+szL aH x.seen:=by
 unfold aL;simp only[jB,Eaw]
 try omega
theorem Na3 (x:aR):dC x<=16+16*aL x:=by
 have h0:=oN (c:=(fun _=>1)) (f:=(fun _=>0)) (m:=16) (by omega) (fun _=>by simp) x.first.deps
 have h1:=oN (c:=(fun _=>1)) (f:=(fun _=>0)) (m:=16) (by omega) (fun _=>by simp) x.attr.deps;have h2:=oN (c:=(fun _=>1)) (f:=(fun _=>0)) (m:=16) (by omega) (fun _=>by simp) x.who;have h3:=oN (c:=aY) (f:=aH) (m:=16) (by omega) Kax x.seen;rw[vE,tV]
 try simp only[jB]at *
 omega
theorem Xas (ds:List D)(h:WTs [.int .i64,.int .i64,.int .i64,.int .i64,.int .i64,.int .i64,.int .i64,.int .i64,.int .i64,.int .i64,.sl 8 [.int .i64],.int .i64,.sl 8 [.int .i64],.bool,.sl 8 [.int .i64],.sl 96 [.int .i64,.int .i64,.int .i64,.int .i64,.int .i64,.int .i64,.int .i64,.int .i64,.int .i64,.sl 8 [.int .i64]]] ds):∃ x:aR,ds=Enc.enc x/\vQ x:=by
 simp only[WTs]at h;obtain⟨d0,r0,rfl,w0,d1,r1,rfl,w1,d2,r2,rfl,w2,d3,r3,rfl,w3,d4,r4,rfl,w4,d5,r5,rfl,w5,d6,r6,rfl,w6,d7,r7,rfl,w7,d8,r8,rfl,w8,d9,r9,rfl,w9,d10,r10,rfl,w10,d11,r11,rfl,w11,d12,r12,rfl,w12,d13,r13,rfl,w13,d14,r14,rfl,w14,d15,r15,rfl,w15,rfl⟩:=h;obtain⟨x0,rfl,-,-⟩:=gF w0;obtain⟨x1,rfl,-,-⟩:=gF w1;obtain⟨x2,rfl,-,-⟩:=gF w2;obtain⟨x3,rfl,-,-⟩:=gF w3;obtain⟨x4,rfl,-,-⟩:=gF w4;obtain⟨x5,rfl,-,-⟩:=gF w5;obtain⟨x6,rfl,-,-⟩:=gF w6;obtain⟨x7,rfl,-,-⟩:=gF w7;obtain⟨x8,rfl,-,-⟩:=gF w8;obtain⟨x9,rfl,-,-⟩:=gF w9;obtain⟨x10,rfl,l10,p10⟩:=Oah (α:=Int) (P:=fun _=>True) rfl Kav w10;obtain⟨x11,rfl,-,-⟩:=gF w11;obtain⟨x12,rfl,l12,p12⟩:=Oah (α:=Int) (P:=fun _=>True) rfl Kav w12;obtain⟨x13,rfl⟩:=Eb9 w13;obtain⟨x14,rfl,l14,p14⟩:=Oah (α:=Int) (P:=fun _=>True) rfl Kav w14;obtain⟨x15,rfl,l15,p15⟩:=Oah (α:=bD) (P:=fun y=>mW y) rfl Ra4 w15;exact⟨⟨x0,x1,x2,x3,⟨x4,x5,x6,x7,x8⟩,⟨x9,x10⟩,⟨x11,x12⟩,x13,x14,x15⟩,rfl,⟨lK l10 (by decide),lK l12 (by decide),lK l14 (by decide),⟨lK l15 (by decide),p15⟩⟩⟩
def fE (x:yN):Nat:=bJ x.table+szL aL x.leads
def Jaf (x:yN):Prop:=(Eao x.table)/\(x.leads.length<=140737488351232/\∀ y0∈x.leads,vQ y0)
theorem Da4 (x:yN):fE x=szL (szL aH) x.table.rows+szL aL x.leads:=by
 unfold fE;simp only[jB,Hay]
 try omega
theorem Bbv (ds:List D)(h:WTs [.int .i64,.int .i64,.sl 24 [.sl 96 [.int .i64,.int .i64,.int .i64,.int .i64,.int .i64,.int .i64,.int .i64,.int .i64,.int .i64,.sl 8 [.int .i64]]],.sl 192 [.int .i64,.int .i64,.int .i64,.int .i64,.int .i64,.int .i64,.int .i64,.int .i64,.int .i64,.int .i64,.sl 8 [.int .i64],.int .i64,.sl 8 [.int .i64],.bool,.sl 8 [.int .i64],.sl 96 [.int .i64,.int .i64,.int .i64,.int .i64,.int .i64,.int .i64,.int .i64,.int .i64,.int .i64,.sl 8 [.int .i64]]]] ds):∃ x:yN,ds=Enc.enc x/\Jaf x:=by
 simp only[WTs]at h;obtain⟨d0,r0,rfl,w0,d1,r1,rfl,w1,d2,r2,rfl,w2,d3,r3,rfl,w3,rfl⟩:=h;obtain⟨x0,rfl,-,-⟩:=gF w0;obtain⟨x1,rfl,-,-⟩:=gF w1;obtain⟨x2,rfl,l2,p2⟩:=Oah (α:=(List bD)) (P:=fun y=>y.length<=140737488351232/\∀ y0∈y,mW y0) rfl (Xat) w2;obtain⟨x3,rfl,l3,p3⟩:=Oah (α:=aR) (P:=fun y=>vQ y) rfl Xas w3;exact⟨⟨x0,⟨x1,x2⟩,x3⟩,rfl,⟨⟨lK l2 (by decide),p2⟩,⟨lK l3 (by decide),p3⟩⟩⟩
def gH (x:iB):Nat:=aM x.attr
def jQ (x:iB):Nat:=1+1+1+1+1+1+1+1+Gai x.cmd+wQ x.attr
def Bax (x:iB)(k:Int):iB:=⟨(k),(k+1),(k+1+1),(k+1+1+1),(k+1+1+1+1),(k+1+1+1+1+1),(k+1+1+1+1+1+1),(k+1+1+1+1+1+1+1),⟨(k+1+1+1+1+1+1+1+1),(k+1+1+1+1+1+1+1+1+1),(k+1+1+1+1+1+1+1+1+1+1),(k+1+1+1+1+1+1+1+1+1+1+1),(k+1+1+1+1+1+1+1+1+1+1+1+1)⟩,⟨(k+1+1+1+1+1+1+1+1+1+1+1+1+1),(mkL (fun _=>1) (fun _ k=>k) x.attr.deps (k+1+1+1+1+1+1+1+1+1+1+1+1+1+1))⟩⟩
theorem Aa5 (x:iB):jQ x=14+ctL (fun _=>1) x.attr.deps:=by
 unfold jQ;simp only[Kaw];simp only[Gag]
 try omega
theorem Da5 (x:iB):gH x=x.attr.deps.length:=by
 unfold gH;simp only[jB,Eaw]
 try omega
theorem Bbw (x:iB):jQ x<=16+16*gH x:=by
 have h0:=oN (c:=(fun _=>1)) (f:=(fun _=>0)) (m:=16) (by omega) (fun _=>by simp) x.attr.deps;rw[Aa5,Da5]
 try simp only[jB]at *
 omega
theorem SZ:(∀ b:Bool,(b&&true)=b)/\(∀ b:Bool,(true&&b)=b)/\(∀ b:Bool,(b&&false)=false)/\(∀ b:Bool,(false&&b)=false) /\
  (∀ b:Bool,(b||true)=true)/\(∀ b:Bool,(true||b)=true)/\(∀ b:Bool,(b||false)=b)/\(∀ b:Bool,(false||b)=b)/\((!true)=false)/\((!false)=true) :=
 ⟨Ubm,Ube,Bool.and_false,Ubk,Vbe,Uby,Ub7,Bool.false_or,rfl,rfl⟩
theorem aF {γ:Type}{a r:γ}(h:iI true a r=r):a=r:=h
theorem S0:type_of% (And.intro Sbb (And.intro @ite_true.{1} (And.intro @ite_false.{1} (And.intro @SA (And.intro @SB (And.intro @SC (And.intro @SP (And.intro @SQ (And.intro @SZ (And.intro @beq_self_eq_true.{0} (And.intro @decide_true (And.intro @decide_false (And.intro @Hb8 @Ibb))))))))))))):=And.intro Sbb (And.intro @ite_true.{1} (And.intro @ite_false.{1} (And.intro @SA (And.intro @SB (And.intro @SC (And.intro @SP (And.intro @SQ (And.intro @SZ (And.intro @beq_self_eq_true.{0} (And.intro @decide_true (And.intro @decide_false (And.intro @Hb8 @Ibb))))))))))))
theorem Ra7 {x y:Bool}(h:x=true↔y=true):some [D.bool x]=some [D.bool y]:=by rw[Bool.eq_iff_iff.2 h]
def eP (n:Int):Bool:=n==3||n==5
theorem bG {n:Int}(h:eP n=true):n=3\/n=5:=by simpa[eP] using h
def inst (n rep no:Int):Bool:=inR rep 0 (n-1)&&inR no 1 6
def lV (c:kP):Bool :=
 if c.kind==0 then decide (c=⟨0,0,0,0,0⟩) else if c.kind==1 then inR c.id 1 999&&inR c.src 0 3&&inR c.dst 0 3&&!(c.src==c.dst)&&inR c.amt 1 1000
 else c.kind==2&&inR c.id 1 999&&inR c.src 0 3&&c.dst==0&&c.amt==0
def Ka5 (c:kP):Int :=
 if !inR c.src 0 3||(c.kind==1&&!inR c.dst 0 3) then 4 else if c.kind==1&&c.src==c.dst then 5 else if !inR c.id 1 999||(c.kind==1&&!inR c.amt 1 1000) then 6 else 0
def gD (n:Int)(a:cZ):Bool:=inR a.seq 0 999&&(a.deps.length:Int)==n&&a.deps.all fun x=>inR x 0 6
def none0 (n:Int):cZ:=⟨0,Sbi n.toNat 0⟩
def rowOk (n:Int)(r:bD):Bool :=
 inR r.ballot 0 9999&&inR r.vote 0 r.ballot&&inR r.state 0 3&&(if r.state==0 then r.vote==0&&decide (r.cmd=⟨0,0,0,0,0⟩)&&decide (r.attr=none0 n) else lV r.cmd&&gD n r.attr)
theorem Ja6 {n:Int}(h:eP n=true):gD n (none0 n)=true:=by
 rcases bG h with rfl|rfl<;>rfl
theorem Xaz {c:kP}(h:decide (c=⟨0,0,0,0,0⟩)=true):lV c=true:=by
 rw[of_decide_eq_true h];rfl
theorem Bb0 {c:kP}:(Ka5 c==0)=(inR c.src 0 3&&inR c.id 1 999&&(!(c.kind==1)||(inR c.dst 0 3&&!(c.src==c.dst)&&inR c.amt 1 1000))):=by
 unfold Ka5;cases inR c.src 0 3<;>cases inR c.id 1 999<;>cases c.kind==1<;>cases inR c.dst 0 3<;>cases c.src==c.dst<;>cases inR c.amt 1 1000<;>rfl
def xC (xs:List bD):Prop:=xs.length<=10000000000/\∀ r∈xs,r.attr.deps.length<=10000000000
def mZ (rows:List (List bD)):Prop:=rows.length<=10000000000/\∀ l∈rows,xC l
theorem Uax (r:bD):aH r=r.attr.deps.length:=jB
theorem La5 {xs:List bD}(h:szL aH xs<=1048576):xC xs:=by
 refine⟨Sb1 (fU (f:=aH)) (by omega),fun r hr=>?_⟩;have h1:=eZ (f:=aH) hr;rw[Uax]at h1;omega
theorem Qa3 {rows:List (List bD)}(h:szL (szL aH) rows<=1048576):mZ rows:=by
 refine⟨Sb1 (fU (f:=szL aH)) (by omega),fun l hl=>La5 ?_⟩;have h1:=eZ (f:=szL aH) hl;omega
def fD (t:aT):Bool:=eP t.n&&(t.rows.length:Int)==t.n&&t.rows.all fun l=>l.all (fun r=>rowOk t.n r)&&decide ((l.length:Int)<=6)
def row0 (n:Int):bD:=⟨0,0,0,⟨0,0,0,0,0⟩,none0 n⟩
def Da2 (t:aT)(rep no:Int):bD:=if no<=(atI t.rows rep).length then atI (atI t.rows rep) (no-1) else row0 t.n
theorem Iba:(rL ([]:List Int)=.rows 1 [])/\(rL ([]:List (List Int))=.rows 1 [])/\(rL ([]:List bD)=.rows 10 [])/\(rL ([]:List (List bD))=.rows 1 [])/\(rL ([]:List aR)=.rows 16 [])/\(rL ([]:List iB)=.rows 15 []):=⟨rfl,rfl,rfl,rfl,rfl,rfl⟩
theorem jM {n rep no:Int}(h:inst n rep no=true):0<=rep/\rep<=n-1/\1<=no/\no<=6:=by
 simp only[inst,inR,Rbu,decide_eq_true_eq]at h;omega
theorem bZ {t:aT}(h:fD t=true):eP t.n=true:=by
 simp only[fD,Rbu]at h;exact h.1.1
theorem iO {t:aT}(h:fD t=true):(t.rows.length:Int)=t.n:=by
 simp only[fD,Rbu,beq_iff_eq]at h;exact h.1.2
theorem Da3 {t:aT}{rep no:Int}(h:fD t=true)(hi:inst t.n rep no=true):InB t.rows rep:=by
 have:=iO h;have:=jM hi;unfold InB;omega
theorem iG {t:aT}(h:fD t=true){l:List bD}(hl:l∈t.rows):l.length<=6/\∀ r∈l,rowOk t.n r=true:=by
 simp only[fD,Rbu,Sbp,decide_eq_true_eq]at h;have:=h.2 l hl;exact⟨by omega,this.1⟩
theorem Bas {n:Int}{r:bD}(h:rowOk n r=true)(hg:eP n=true):(r.attr.deps.length:Int)=n:=by
 have h2:gD n r.attr=true:=by
  simp only[rowOk,Rbu]at h;have h3:=h.2;split at h3
  ·simp only[Rbu]at h3
   rw[of_decide_eq_true h3.2];exact Ja6 hg
  ·simp only[Rbu]at h3
   exact h3.2
 simp only[gD,Rbu,beq_iff_eq]at h2;exact h2.1.2
theorem Vad {n:Int}{r:bD}(h:rowOk n r=true):lV r.cmd=true:=by
 simp only[rowOk,Rbu]at h;have h3:=h.2;split at h3
 ·simp only[Rbu]at h3
  exact Xaz h3.1.2
 ·simp only[Rbu]at h3
  exact h3.1
theorem vK {α:Type}[Inhabited α]{xs:List α}{k:Int}(h:InB xs k):atI xs k∈xs:=by
 have h2:=h.lt;have e:((k.toNat:Nat):Int)=k:=by unfold InB at h;omega
 rw[<- e];exact at_mem h2
theorem Oap {t:aT}{rep no:Int}(h:fD t=true)(hi:inst t.n rep no=true):rowOk t.n (Da2 t rep no)=true:=by
 unfold Da2;have hb:=Da3 h hi;have hr:=jM hi;split
 ·exact (iG h (vK hb)).2 _ (vK (by unfold InB;omega))
 ·rcases bG (bZ h) with e|e<;>rw[e]<;>rfl
theorem Uar {t:aT}{rep no:Int}(h:fD t=true)(hi:inst t.n rep no=true):((Da2 t rep no).attr.deps.length:Int)=t.n:=Bas (Oap h hi) (bZ h)
def ext (n:Int)(l:List bD)(no:Int):List bD:=l++Sbi (no-l.length).toNat (row0 n)
def Cam (t:aT)(rep no:Int)(r:bD):aT:=⟨t.n,dI t.rows rep (dI (ext t.n (atI t.rows rep) no) (no-1) r)⟩
theorem Kau {n:Int}{l:List bD}{no:Int}(h:0<=no):((ext n l no).length:Int)=max (l.length:Int) no:=by
 simp only[ext,Rb8,Tbz];omega
def nb (b me:Int):Int:=if b<8+me then 8+me else b+1+(me-b-1) % 8
theorem Ebg {x lo hi:Int}(h:inR x lo hi=true):lo<=x/\x<=hi:=by
 simpa[inR] using h
theorem rC {α:Type}{xs:List α}{k:Int}{a:α}:(dI xs k a).length=xs.length:=List.length_set ..
theorem Cb7 {α:Type}[Inhabited α]{xs:List α}{j k:Int}{a:α}(hj:0<=j)(hk:0<=k)(h:j≠k):atI (dI xs j a) k=atI xs k:=by
 unfold atI dI;rw[Rb5,Rb5,List.getElem?_set_ne (by omega)]
theorem Xa0 {c:kP}(h:lV c=true):(c.kind=0\/c.kind=1\/c.kind=2)/\(c.kind=1->(0<=c.src/\c.src<=3)/\(0<=c.dst/\c.dst<=3)/\c.src≠c.dst/\1<=c.amt/\c.amt<=1000)/\(c.kind=2->0<=c.src/\c.src<=3):=by
 unfold lV at h;split at h
 ·rename_i h0
  have:c.kind=0:=by simpa using h0
  exact⟨.inl this,by omega,by omega⟩
 ·split at h
  ·rename_i h1
   have:c.kind=1:=by simpa using h1
   simp only[Rbu,inR,decide_eq_true_eq,Sbl,beq_eq_false_iff_ne]at h;exact⟨by omega,fun _=>⟨h.1.1.1.2,h.1.1.2,h.1.2,h.2⟩,by omega⟩
  ·simp only[Rbu,inR,decide_eq_true_eq,beq_iff_eq]at h
   exact⟨by omega,by omega,fun _=>h.1.1.2⟩
def Ba4 (xs:List Int)(n:Int):Bool:=xs.any fun x=>x==n
def nD (xs:List Int)(n:Int):Nat:=(xs.takeWhile fun x=>decide (x<n)).length
def Rac (xs:List Int)(n:Int):List Int:=if decide ((nD xs n:Int)<xs.length)&&(atI xs (nD xs n:Nat)==n) then xs else xs.take (nD xs n)++[n]++xs.drop (nD xs n)
theorem Db2 (xs:List Int)(n:Int):nD xs n<=xs.length:=(List.takeWhile_sublist _).length_le
theorem Vao:∀ {xs:List Int} {n:Int} {k:Nat},k<nD xs n->atI xs (k:Int)<n
 |[],n,k,h=>by simp[nD]at h
 | x :: xs, n, k, h => by
  unfold nD at h;rw[Vbh]at h;by_cases hx:x<n
  ·rw[if_pos (by simpa using hx)]at h
   cases k with
   |zero=>exact hx
   |succ k=>exact Vao (xs:=xs) (k:=k) (by simpa[nD] using h)
  ·rw[if_neg (by simpa using hx)]at h
   simp at h
theorem Vap:∀ {xs:List Int} {n:Int},nD xs n<xs.length->¬ atI xs (nD xs n:Nat)<n
 |[],n,h=>by simp at h
 | x :: xs, n, h => by
  unfold nD at h ⊢;rw[Vbh]at h ⊢;by_cases hx:x<n
  ·rw[if_pos (by simpa using hx)]at h ⊢
   exact Vap (xs:=xs) (n:=n) (by simpa[nD] using h)
  ·rw[if_neg (by simpa using hx)]
   exact hx
def jT (c:kP):List Int:=if c.kind==1 then [min c.src c.dst,max c.src c.dst] else if c.kind==2 then [c.src] else []
theorem vU (c:kP):(jT c).length<=2:=by
 unfold jT;split
 ·simp
 ·split<;>simp
def uS (a b:kP):Bool:=(jT a).any fun k=>Ba4 (jT b) k
theorem Pat (a b:kP):uS a b=uS b a:=by
 unfold uS Ba4;rw[Bool.eq_iff_iff];simp only[Tb7,beq_iff_eq];constructor
 ·rintro⟨x,hx,y,hy,rfl⟩;exact⟨y,hy,y,hx,rfl⟩
 ·rintro⟨x,hx,y,hy,rfl⟩;exact⟨y,hy,y,hx,rfl⟩
theorem Pb7 {a b:Int}(h:a≠b):Rac [a] b=[min a b,max a b]:=by
 by_cases hx:a<b
 ·have e:nD [a] b=1:=by simp[nD,hx]
  unfold Rac;rw[e];simp[Int.min_eq_left (Int.le_of_lt hx),Int.max_eq_right (Int.le_of_lt hx)]
 ·have e:nD [a] b=0:=by simp[nD,hx]
  unfold Rac;rw[e];simp[atI,h,Int.min_eq_right (by omega:b<=a),Int.max_eq_left (by omega:b<=a)]
def Xav (l:List bD)(k:Int)(m:Nat):List (List Int):=(Vbk m).flatMap fun i:Nat=>if (atI l (i:Int)).state==3 then [[k,(i:Int)+1]] else []
def Pbf (rows:List (List bD))(m:Nat):List (List Int):=(Vbk m).flatMap fun k:Nat=>Xav (atI rows (k:Int)) k (atI rows (k:Int)).length
def Fbp (rows:List (List bD)):List (List Int):=Pbf rows rows.length
theorem Bbx {rows:List (List bD)}{x:List Int}(h:x∈Fbp rows):∃ k i:Nat,k<rows.length/\i<(atI rows (k:Int)).length/\x=[(k:Int),(i:Int)+1]/\(atI (atI rows (k:Int)) (i:Int)).state=3:=by
 unfold Fbp Pbf Xav at h;simp only[Vbm,Ub1]at h;obtain⟨k,hk,i,hi,hx⟩:=h;split at hx
 ·rename_i hs
  exact⟨k,i,hk,hi,by simpa using hx,by simpa using hs⟩
 ·cases hx
theorem Xaw {t:aT}(ht:fD t=true){x:List Int}(h:x∈Fbp t.rows):InB x 0/\InB x 1/\x.length=2/\inst t.n (atI x 0) (atI x 1)=true/\(Da2 t (atI x 0) (atI x 1)).state=3:=by
 obtain⟨k,i,hk,hi,rfl,hs⟩:=Bbx h;have h1:=(iG ht (at_mem hk)).1;have h2:=iO ht;refine⟨by unfold InB;simp,by unfold InB;simp,rfl,?_,?_⟩
 ·simp only[atI,inst,inR,Rbu,decide_eq_true_eq]
  simp;omega
 ·show (Da2 t (k:Int) ((i:Int)+1)).state=3
  unfold Da2;rw[if_pos (by omega),show (i:Int)+1-1=i by omega];exact hs
def Xac (l:List (List Int))(x:List Int):Int:=ixF (fun y=>decide (x=y)) l
def Cbz (k:Int)(rep no:Int)(m:Nat):List (List Int):=(Vbk m).flatMap fun i:Nat=>if !(k==rep)||!((i:Int)+1==no) then [[k,(i:Int)+1]] else []
def Lb6 (deps:List Int)(rep no:Int)(m:Nat):List (List Int):=(Vbk m).flatMap fun k:Nat=>Cbz k rep no (atI deps (k:Int)).toNat
def Lbe (t:aT)(rep no:Int):List (List Int):=Lb6 (Da2 t rep no).attr.deps rep no (Da2 t rep no).attr.deps.length
theorem Sa5 {n:Int}{r:bD}(h:rowOk n r=true)(hg:eP n=true):∀ d∈r.attr.deps,0<=d/\d<=6:=by
 have h2:gD n r.attr=true:=by
  simp only[rowOk,Rbu]at h;have h3:=h.2;split at h3
  ·simp only[Rbu]at h3
   rw[of_decide_eq_true h3.2];exact Ja6 hg
  ·simp only[Rbu]at h3
   exact h3.2
 simp only[gD,Rbu,Sbp]at h2;exact fun d hd=>Ebg (h2.2 d hd)
theorem Bbs {deps:List Int}{rep no:Int}{m:Nat}{y:List Int}:y∈Lb6 deps rep no m↔∃ k i:Nat,k<m/\(i:Int)<atI deps (k:Int)/\¬((k:Int)=rep/\(i:Int)+1=no)/\y=[(k:Int),(i:Int)+1]:=by
 unfold Lb6 Cbz;simp only[Vbm,Ub1];constructor
 ·rintro⟨k,hk,i,hi,hy⟩
  split at hy
  ·rename_i hc
   refine⟨k,i,hk,by omega,?_,by simpa using hy⟩;simp only[Tbk,Sbl,beq_eq_false_iff_ne,ne_eq]at hc;omega
  ·cases hy
 ·rintro⟨k,i,hk,hi,dk,rfl⟩
  refine⟨k,hk,i,by omega,?_⟩;rw[if_pos]
  ·simp
  ·simp only[Tbk,Sbl,beq_eq_false_iff_ne,ne_eq]
   omega
def lM (xs:List Int):Prop:=xs.Pairwise (· < ·)
theorem Bat:∀ {xs ys:List Int},lM xs->lM ys->(∀ x,x∈xs↔x∈ys)->xs=ys
 |[],[],_,_,_=>rfl
 |[],y::ys,_,_,h=>by have:=(h y).2 Sbe;cases this
 |x::xs,[],_,_,h=>by have:=(h x).1 Sbe;cases this
 | x :: xs, y :: ys, hx, hy, h => by
  unfold lM at hx hy;rw[Tbu]at hx hy
  have e:x=y:=by
   rcases Rb4.1 ((h x).1 Sbe) with h1|h1
   ·exact h1
   ·rcases Rb4.1 ((h y).2 Sbe) with h2|h2
    ·exact h2.symm
    ·have:=hx.1 y h2
     have:=hy.1 x h1;omega
  subst e;congr 1;refine Bat hx.2 hy.2 fun z=>?_
  constructor
  ·intro hz
   rcases Rb4.1 ((h z).1 (Rb7 _ hz)) with h1|h1
   ·subst h1
    exact absurd (hx.1 z hz) (by omega)
   ·exact h1
  ·intro hz
   rcases Rb4.1 ((h z).2 (Rb7 _ hz)) with h1|h1
   ·subst h1
    exact absurd (hy.1 z hz) (by omega)
   ·exact h1
theorem Maj {x n:Int}{xs:List Int}:Rac (x::xs) n=if x<n then x::Rac xs n else if x==n then x::xs else n::x::xs:=by
 by_cases h:x<n
 ·rw[if_pos h]
  have e:nD (x::xs) n=nD xs n+1:=by simp[nD,h]
  have ea:atI (x::xs) ((nD xs n+1:Nat):Int)=atI xs (nD xs n:Nat):=by
   rw[vL,vL,List.getD_cons_succ]
  have el:decide (((nD xs n+1:Nat):Int)<(x::xs).length)=decide (((nD xs n:Nat):Int)<xs.length):=by
   simp only[Sbm,decide_eq_decide];omega
  unfold Rac;rw[e,ea,el];split
  ·rfl
  ·simp
 ·rw[if_neg h]
  have e:nD (x::xs) n=0:=by simp[nD,h]
  unfold Rac;rw[e];have ea:atI (x::xs) ((0:Nat):Int)=x:=rfl;rw[ea];have el:decide (((0:Nat):Int)<(x::xs).length)=true:=by simp
  rw[el,Ube];split
  ·rfl
  ·simp
theorem Ja4:∀ {xs:List Int} {n x:Int},x∈Rac xs n↔x∈xs\/x=n
 |[],n,x=>by simp[Rac,nD]
 | y :: ys, n, x => by
  rw[Maj];split
  ·rw[Rb4,Ja4,Rb4,or_assoc]
  ·split
   ·rename_i h
    have:y=n:=by simpa using h
    subst this;simp[or_comm]
   ·simp only[Rb4]
    constructor
    ·rintro (h|h|h)
     ·exact .inr h
     ·exact .inl (.inl h)
     ·exact .inl (.inr h)
    ·rintro ((h|h)|h)
     ·exact .inr (.inl h)
     ·exact .inr (.inr h)
     ·exact .inl h
theorem Faf:∀ {xs:List Int} {n:Int},lM xs->lM (Rac xs n)
 |[],n,_=>by simp[Rac,nD,lM]
 | y :: ys, n, h => by
  have h':=h;unfold lM at h;rw[Tbu]at h;rw[Maj];split
  ·unfold lM
   rw[Tbu];refine⟨fun z hz=>?_,Faf h.2⟩
   rcases Ja4.1 hz with h1|h1
   ·exact h.1 z h1
   ·omega
  ·split
   ·exact h'
   ·rename_i h1 h2
    have:y≠n:=by simpa using h2
    unfold lM;rw[Tbu];refine⟨fun z hz=>?_,h'⟩
    rcases Rb4.1 hz with h3|h3
    ·omega
    ·have:=h.1 z h3
     omega
theorem Ab6 {α:Type}[Inhabited α]{p:α->Bool}{xs:List α}(h:0<=ixF p xs):InB xs (ixF p xs)/\p (atI xs (ixF p xs))=true/\∀ k:Nat,(k:Int)<ixF p xs->p (atI xs (k:Int))=false:=by
 unfold ixF at h ⊢
 cases e:xs.findIdx? p with
 |none=>rw[e]at h;simp at h
 | some i =>
  rw[List.findIdx?_eq_some_iff_getElem]at e;obtain⟨hi,hp,a5j⟩:=e;refine⟨aU.2 hi,by simp only;rw[bH hi];exact hp,fun k hk=>?_⟩;have kk:k<i:=by simp only at hk;omega
  rw[bH (by omega)];have:=a5j k kk;simpa using this
theorem Hbt {α:Type}[Inhabited α]{p:α->Bool}{xs:List α}{k:Nat}(hk:k<xs.length)(hp:p (atI xs (k:Int))=true):0<=ixF p xs:=by
 have h:xs.any p=true:=Tb7.2 ⟨_,at_mem hk,hp⟩;rw[<- iT]at h;exact of_decide_eq_true h
section
variable {T:Nat->Ent} {β:Type}
theorem Lbt {body:Tm β}{ρ:List D}(j s n:Nat)(p:Nat->Bool)(r:List D)
  (h1:∀ i:Nat,s<=i->i<n->decide ((i:Int)<n)=true->Er T body (ρ++[i64 i])=iI (p i) (some (.cont,[i64 ((i:Int)+1)])) (some (.ret,r)))
  (h3:∀ i:Nat,n<=i->decide ((i:Int)<n)=false->Er T body (ρ++[i64 i])=some (.yield j,[])) :
  Er T (.loop [.c (i64 s)] body) ρ=iI (xO (fun i=>decide (i<s)||p i) n) (some (.yield j,[])) (some (.ret,r)):=by
 obtain⟨q,h4,h5⟩:=Maw (T:=T) (body:=body) (ρ:=ρ) (fun i:Nat=>n-i) (fun i=>s<=i/\∀ k,s<=k->k<i->k<n->p k=true) (fun i=>[i64 (i:Nat)])
  (fun q=>q=iI (xO (fun i=>decide (i<s)||p i) n) (.yield j,[]) (.ret,r))
  (fun i ⟨hs,cQ⟩=>by
   rcases Sbh i n with aw|nj
   ·have e:=h1 i hs aw (by simp;omega)
    cases hp:p i with
    | true =>
     rw[hp]at e
     exact⟨_,e,.inl ⟨rfl,i+1,⟨by omega,fun k h2 h6 h7=>by
      rcases Sbh k i with h8|h8
      ·exact cQ k h2 h8 h7
      ·obtain rfl:k=i:=by omega
       exact hp⟩,by omega,rfl⟩⟩
    | false =>
     rw[hp]at e;have hf:xO (fun i=>decide (i<s)||p i) n=false:=Cah.2 ⟨i,aw,by simp[hp];omega⟩;exact⟨_,e,.inr ⟨by simp,by rw[hf];rfl⟩⟩
   ·have ht:xO (fun i=>decide (i<s)||p i) n=true:=iF.2 fun k hk=>by
     by_cases h2:k<s
     ·simp[h2]
     ·rw[cQ k (by omega) (by omega) hk,Vbe]
    exact⟨_,h3 i nj (by simp;omega),.inr ⟨by simp,by rw[ht];rfl⟩⟩)
  n s (by omega) ⟨Sbg _,fun k h1 h2 _=>by omega⟩ [.c (i64 s)] rfl
 rw[h4,h5];cases xO (fun i=>decide (i<s)||p i) n<;>rfl
end
def Ca4 (n:Int):Prop:=0<=n/\n<=1000000
theorem Wan {n:Int}(h:eP n=true):Ca4 n:=by have:=bG h;unfold Ca4;omega
theorem Vat (k:Int):k=1\/k=2\/k=3\/(k==1)=false/\(k==2)=false/\(k==3)=false:=by
 by_cases h1:k=1
 ·exact .inl h1
 by_cases h2:k=2
 ·exact .inr (.inl h2)
 by_cases h3:k=3
 ·exact .inr (.inr (.inl h3))
 ·exact .inr (.inr (.inr ⟨by simpa using h1,by simpa using h2,by simpa using h3⟩))
def Jay (xs:List Int)(i:Nat):Bool:=!(decide (0<i)&&decide (atI xs (i:Int)<=atI xs ((i:Int)-1)))
def Pag (xs:List Int)(lo hi:Int):Bool:=xO (fun i=>inR (atI xs (i:Int)) lo hi&&Jay xs i) xs.length
def Ma4 (p l:aR):Bool:=decide (l.rep<p.rep)||(p.rep==l.rep&&decide (l.no<=p.no))
def lY (n me:Int)(l:aR):Bool :=
  inst n l.rep l.no&&inR l.ballot 0 9999&&Pag l.who 0 (n-1)&&Ba4 l.who me&&gD n l.first&&gD n l.attr &&
  (if l.phase==1 then lV l.cmd&&(l.seen.length:Int)==0 else if l.phase==2 then lV l.cmd&&(l.seen.length:Int)==0&&!l.same&&decide (l.first=l.attr)
   else if l.phase==3 then decide (l.cmd=⟨0,0,0,0,0⟩)&&decide (l.first=none0 n)&&decide (l.attr=none0 n)&&!l.same&&(l.seen.length:Int)==l.who.length&&l.seen.all fun r=>rowOk n r&&!(r.state==3)
   else false)
def Faq (n me:Int)(ls:List aR)(i:Nat):Bool:=lY n me (atI ls (i:Int))&&!(decide (0<(i:Int))&&Ma4 (atI ls ((i:Int)-1)) (atI ls (i:Int)))
def mF (r:yN):Bool:=fD r.table&&inR r.me 0 (r.table.n-1)&&xO (Faq r.table.n r.me r.leads) r.leads.length
def Qa4 (l:aR):Prop:=l.first.deps.length<=10000000000/\l.attr.deps.length<=10000000000/\l.who.length<=10000000000/\xC l.seen
def nA (l:List aR):Prop:=l.length<=10000000000/\∀ x∈l,Qa4 x
def Fb1 (r:yN):Prop:=mZ r.table.rows/\nA r.leads
theorem La6 {l:aR}(h:aL l<=1048576):Qa4 l:=by
 rw[tV]at h;exact⟨by omega,by omega,by omega,La5 (by omega)⟩
theorem Sa1 {l:List aR}(h:szL aL l<=1048576):nA l:=by
 refine⟨Sb1 (fU (f:=aL)) (by omega),fun x hx=>La6 ?_⟩;have:=eZ (f:=aL) hx;omega
theorem Abb {r:yN}(h:fE r<=1048576):Fb1 r:=by
 rw[Da4]at h;exact⟨Qa3 (by omega),Sa1 (by omega)⟩
def Ka4:List Int->List Int->Option Int
 |[],_=>none
 |_::_,[]=>some 1
 |x::xs,y::ys=>if x<y then some (-1) else if y<x then some 1 else Ka4 xs ys
def Bby (xs ys:List Int):Int:=match Ka4 xs ys with
 |some c=>c
 |none=>if decide ((xs.length:Int)<ys.length) then -1 else 0
def Ebz (a b:Int):Int:=if a<b then -1 else if b<a then 1 else 0
theorem Xay {xs ys:List Int}{i:Nat}(h:i<xs.length)(h2:i<ys.length):Ka4 (xs.drop i) (ys.drop i)=if atI xs (i:Int)<atI ys (i:Int) then some (-1) else if atI ys (i:Int)<atI xs (i:Int) then some 1 else Ka4 (xs.drop (i+1)) (ys.drop (i+1)):=by
 rw[Tbp h,Tbp h2,bH h,bH h2];rfl
theorem Bbz {xs ys:List Int}{i:Nat}(h:i<xs.length)(h2:ys.length<=i):Ka4 (xs.drop i) (ys.drop i)=some 1:=by
 rw[Tbp h,List.drop_eq_nil_of_le h2];rfl
theorem Rbq (a b c d:Int):decide (Bby [a,b] [c,d]<=0)=(decide (a<c)||(c==a&&decide (b<=d))):=by
 unfold Bby Ka4;by_cases h1:a<c
 ·simp[h1]
 ·rw[if_neg h1]
  by_cases h2:c<a
  ·simp[h1,h2];omega
  ·rw[if_neg h2]
   have:c=a:=by omega
   subst this;unfold Ka4;by_cases h3:b<d
   ·simp[h3];omega
   ·rw[if_neg h3]
    by_cases h4:d<b
    ·simp[h4]
    ·rw[if_neg h4]
     simp[Ka4];omega
theorem Haz {α:Type}{f:α->Nat}{k:Nat}:∀ {xs:List α},(∀ x∈xs,f x<=k)->szL f xs<=xs.length*(k+1)
 |[],_=>by simp[szL]
 | x :: xs, h => by
  have h1:=h x Sbe;have h2:=Haz (f:=f) (k:=k) (xs:=xs) fun y hy=>h y (Rb7 _ hy)
  rw[Jak,Sbm,Nat.succ_mul];omega
theorem Ja9 {α:Type}{xs:List α}{k:Int}{a x:α}(h:x∈dI xs k a):x∈xs\/x=a:=List.mem_or_eq_of_mem_set h
def u64 (n:Int):D:=.int .u64 n
theorem u_conv {a:Int}:(aN.conv .u64).run [i64 a]=some [u64 (IntKind.u64.wrap a)]:=rfl
theorem Eb3 {α:Type}[Inhabited α]{xs ys:List α}{k:Int}(h0:0<=k)(h:k<(xs.length:Int)):atI (xs++ys) k=atI xs k:=by
 unfold atI;rw[Rb5,Rb5,List.getElem?_append_left (by omega)]
theorem Eb2 {α:Type}[Inhabited α]{xs:List α}{a:α}{n:Nat}{k:Int}(h:(xs.length:Int)<=k)(h2:k<(xs.length:Int)+n):atI (xs++Sbi n a) k=a:=by
 unfold atI;rw[Rb5,List.getElem?_append_right (by omega),List.getElem?_replicate_of_lt (by omega)];rfl
theorem Uaq {t:aT}{rep no:Int}{r:bD}(h:fD t=true)(hi:inst t.n rep no=true){k i:Int}(hk:inst t.n k i=true):Da2 (Cam t rep no r) k i=if k=rep/\i=no then r else Da2 t k i:=by
 obtain⟨r1,r2,r3,r4⟩:=jM hi;obtain⟨k1,k2,k3,k4⟩:=jM hk;have hb:=Da3 h hi;have jw:=Da3 h hk;have hl:=Kau (n:=t.n) (l:=atI t.rows rep) (no:=no) (by omega);unfold Da2;simp only[Cam];by_cases ru:k=rep
 ·subst ru
  have e:atI (dI t.rows k (dI (ext t.n (atI t.rows k) no) (no-1) r)) k=dI (ext t.n (atI t.rows k) no) (no-1) r:=lW.1 hb;simp only[e,rC,true_and];by_cases kb:i=no
  ·subst kb
   rw[if_pos (by omega),if_pos rfl];exact lW.1 (by unfold InB;omega)
  ·rw[if_neg kb]
   rw[Cb7 (by omega) (by omega) (by omega)];by_cases h1:i<=((atI t.rows k).length:Int)
   ·rw[if_pos (by omega),if_pos h1]
    exact Eb3 (by omega) (by omega)
   ·rw[if_neg h1]
    split
    ·exact Eb2 (by omega) (by omega)
    ·rfl
 ·rw[if_neg (fun hc=>ru hc.1)]
  have e:atI (dI t.rows rep (dI (ext t.n (atI t.rows rep) no) (no-1) r)) k=atI t.rows k:=Cb7 (by omega) (by omega) (fun e=>ru e.symm);simp only[e]
theorem Vae {n:Int}(h:eP n=true):rowOk n (row0 n)=true:=by
 have hn:=bG h
 rcases hn with rfl|rfl<;>decide
theorem Uap {t:aT}{rep no:Int}{r:bD}(h:fD t=true)(hi:inst t.n rep no=true)(hr:rowOk t.n r=true):fD (Cam t rep no r)=true:=by
 obtain⟨r1,r2,r3,r4⟩:=jM hi;have hb:=Da3 h hi;have hg:=bZ h;have hlen:=iO h;have hl:=Kau (n:=t.n) (l:=atI t.rows rep) (no:=no) (by omega);obtain⟨h6,sL⟩:=iG h (vK hb);simp only[fD,Cam,Rbu,Sbp,beq_iff_eq,decide_eq_true_eq,rC];refine⟨⟨hg,hlen⟩,fun l lf=>?_⟩
 rcases Ja9 lf with lf|rfl
 ·obtain⟨q1,q2⟩:=iG h lf
  exact⟨q2,by omega⟩
 ·refine⟨fun x hx=>?_,by rw[rC];omega⟩
  rcases Ja9 hx with hx|rfl
  ·unfold ext at hx
   rcases Sbd.1 hx with hx|hx
   ·exact sL x hx
   ·rw[List.eq_of_mem_replicate hx]
    exact Vae hg
  ·exact hr
theorem Ebh {x lo hi:Int}:inR x lo hi=true↔lo<=x/\x<=hi:=by simp[inR]
def u8 (c:UInt8):D:=.int .u8 (c.toNat:Nat)
theorem Ia5 {n:Int}{a:cZ}(h:gD n a=true):0<=a.seq/\a.seq<=999/\(a.deps.length:Int)=n/\∀ x∈a.deps,0<=x/\x<=6:=by
 simp only[gD,inR,Rbu,decide_eq_true_eq,beq_iff_eq,Sbp]at h;exact⟨h.1.1.1,h.1.1.2,h.1.2,fun x hx=>h.2 x hx⟩
def prL (y:List Int):Int×Int:=(atI y 0,atI y 1)
def toL (p:Int×Int):List Int:=[p.1,p.2]
theorem xU {y:List Int}(h:y.length=2):toL (prL y)=y:=by
 match y,h with
 |[a,b],_=>rfl
theorem Vaq (p:Int×Int):prL (toL p)=p:=rfl
def ltL (y z:List Int):Prop:=ltQ (prL y) (prL z)=true
theorem oW {y z:List Int}:ltL y z↔atI y 0<atI z 0\/(atI y 0=atI z 0/\atI y 1<atI z 1):=uO
def vN (l:List (List Int)):Prop:=l.Pairwise ltL
theorem zC:∀ {xs ys:List (List Int)},vN xs->vN ys->(∀ x,x∈xs↔x∈ys)->xs=ys
 |[],[],_,_,_=>rfl
 |[],y::ys,_,_,h=>by have:=(h y).2 Sbe;cases this
 |x::xs,[],_,_,h=>by have:=(h x).1 Sbe;cases this
 | x :: xs, y :: ys, hx, hy, h => by
  unfold vN at hx hy;rw[Tbu]at hx hy
  have e:x=y:=by
   rcases Rb4.1 ((h x).1 Sbe) with h1|h1
   ·exact h1
   ·rcases Rb4.1 ((h y).2 Sbe) with h2|h2
    ·exact h2.symm
    ·have h3:=oW.1 (hx.1 y h2)
     have h4:=oW.1 (hy.1 x h1);omega
  subst e;congr 1;refine zC hx.2 hy.2 fun z=>?_
  constructor
  ·intro hz
   rcases Rb4.1 ((h z).1 (Rb7 _ hz)) with h1|h1
   ·subst h1
    have:=oW.1 (hx.1 z hz);omega
   ·exact h1
  ·intro hz
   rcases Rb4.1 ((h z).2 (Rb7 _ hz)) with h1|h1
   ·subst h1
    have:=oW.1 (hy.1 z hz);omega
   ·exact h1
theorem Ea9 {l:List (List Int)}(h2:∀ y∈l,y.length=2)(hn:l.Nodup):vN ((La4 id (l.map prL)).map toL)/\∀ y,y∈(La4 id (l.map prL)).map toL↔y∈l:=by
 have hp:=Iaa id (l.map prL);have hs:=Cau id (l.map prL)
 have hnd:(l.map prL).Nodup:=by
  unfold List.Nodup;rw[List.pairwise_map];refine List.Pairwise.imp_of_mem (fun {a b} ha hb re e=>re ?_) hn;rw[<- xU (h2 a ha),<- xU (h2 b hb),e]
 have a48:(La4 id (l.map prL)).Nodup:=hp.nodup_iff.2 hnd;constructor
 ·unfold vN
  rw[List.pairwise_map];have h3:=List.pairwise_and_iff.2 ⟨hs,a48⟩;refine h3.imp fun {a b} re=>?_
  unfold ltL;rw[Vaq,Vaq];have h4:ltQ b a=false:=re.1
  cases h5:ltQ a b with
  |true=>rfl
  |false=>exact absurd (Abx h5 h4) re.2
 ·intro y
  rw[Sb7];constructor
  ·rintro⟨p,hp1,rfl⟩
   obtain⟨z,hz,rfl⟩:=Sb7.1 (hp.mem_iff.1 hp1);rw[xU (h2 z hz)];exact hz
  ·intro hy
   exact⟨prL y,hp.mem_iff.2 (Sb7.2 ⟨y,hy,rfl⟩),xU (h2 y hy)⟩
def jA (n:Int)(y:List Int):Prop:=y.length=2/\inst n (atI y 0) (atI y 1)=true
def sM (n:Nat):List (List Int):=(Vbk n).flatMap fun k:Nat=>(Vbk 6).map fun i:Nat=>[(k:Int),(i:Int)+1]
theorem yL {n:Nat}{y:List Int}:y∈sM n↔jA n y:=by
 unfold sM jA;simp only[Vbm,Ub1,Sb7];constructor
 ·rintro⟨k,hk,i,hi,rfl⟩
  refine⟨rfl,?_⟩;simp only[atI,inst,inR,Rbu,decide_eq_true_eq];simp;omega
 ·rintro⟨h1,h2⟩
  match y,h1 with
  | [a, b], _ =>
   have h3:=jM h2;simp only[atI]at h3;simp at h3;refine⟨a.toNat,by omega,(b-1).toNat,by omega,?_⟩;rw[show ((a.toNat:Nat):Int)=a by omega,show (((b-1).toNat:Nat):Int)=b-1 by omega,show b-1+1=b by omega]
theorem Qac (n:Nat):(sM n).length=6*n:=by
 unfold sM;rw[List.length_flatMap];simp[List.map_const'];omega
theorem Dao (n:Nat):vN (sM n):=by
 unfold vN sM;rw[List.pairwise_flatMap];refine⟨fun k hk=>?_,?_⟩
 ·rw[List.pairwise_map]
  refine List.pairwise_lt_range.imp fun {a b} re=>?_
  rw[oW];simp[atI];omega
 ·refine List.pairwise_lt_range.imp fun {a b} re=>?_
  intro x hx y hy;obtain⟨i,hi,rfl⟩:=Sb7.1 hx;obtain⟨j,hj,rfl⟩:=Sb7.1 hy;rw[oW];simp[atI];omega
theorem pY {α:Type}[DecidableEq α]:∀ {l m:List α},l.Nodup->(∀ x∈l,x∈m)->l.length<=m.length
 |[],_,_,_=>Nat.zero_le _
 | x :: l, m, hn, hs => by
  rw[List.nodup_cons]at hn;have hx:=hs x Sbe
  have:=pY (l:=l) (m:=m.erase x) hn.2 fun y hy=>by
   have dk:y≠x:=fun e=>hn.1 (by rw[<- e];exact hy)
   exact (List.mem_erase_of_ne dk).2 (hs y (Rb7 _ hy))
  have h1:=List.length_erase_of_mem hx;have h2:=List.length_pos_of_mem hx;simp only[Sbm];omega
theorem Eaf {n:Int}{l:List (List Int)}(hg:eP n=true)(hn:l.Nodup)(h:∀ y∈l,jA n y):l.length<=30:=by
 have h1:=bG hg;have e:((n.toNat:Nat):Int)=n:=by omega
 have:=pY hn (m:=sM n.toNat) fun y hy=>yL.2 (by rw[e];exact h y hy)
 rw[Qac]at this;omega
def Wa0 (k:Int)(m:Nat):List (List Int):=(Vbk m).map fun i:Nat=>[k,(i:Int)+1]
def Ebi (deps:List Int)(m:Nat):List (List Int):=(Vbk m).flatMap fun k:Nat=>Wa0 k (atI deps (k:Int)).toNat
def Daw (t:aT)(x:List Int):List (List Int):=Ebi (Da2 t (atI x 0) (atI x 1)).attr.deps (Da2 t (atI x 0) (atI x 1)).attr.deps.length
theorem Nah {deps:List Int}{m:Nat}{y:List Int}:y∈Ebi deps m↔∃ k i:Nat,k<m/\(i:Int)<atI deps (k:Int)/\y=[(k:Int),(i:Int)+1]:=by
 unfold Ebi Wa0;simp only[Vbm,Ub1,Sb7];constructor
 ·rintro⟨k,hk,i,hi,rfl⟩
  exact⟨k,i,hk,by omega,rfl⟩
 ·rintro⟨k,i,hk,hi,rfl⟩
  exact⟨k,hk,i,by omega,rfl⟩
theorem Tas {t:aT}(ht:fD t=true){x y:List Int}(hx:jA t.n x)(hy:y∈Daw t x):jA t.n y:=by
 unfold Daw at hy;obtain⟨k,i,hk,hi,rfl⟩:=Nah.1 hy;have h1:=Uar ht hx.2;have h2:=Sa5 (Oap ht hx.2) (bZ ht) _ (at_mem hk);refine⟨rfl,?_⟩;simp only[atI,inst,inR,Rbu,decide_eq_true_eq]at h2 ⊢;simp only[atI]at hi;simp;omega
theorem Na2 {t:aT}{x y:List Int}(hx:x.length=2):y∈Lbe t (atI x 0) (atI x 1)↔y∈Daw t x/\y≠x:=by
 unfold Lbe Daw;rw[Bbs,Nah]
 match x,hx with
 | [a, b], _ =>
  constructor
  ·rintro⟨k,i,h1,h2,h3,rfl⟩
   refine⟨⟨k,i,h1,h2,rfl⟩,fun e=>h3 ?_⟩;simp only[Tbj,and_true]at e;exact e
  ·rintro⟨⟨k,i,h1,h2,rfl⟩,dk⟩
   refine⟨k,i,h1,h2,fun e=>dk ?_,rfl⟩;have e1:(k:Int)=a:=e.1;have e2:(i:Int)+1=b:=e.2;rw[e1,e2]
def Ra5 (t:aT)(y:List Int):Bool:=(Da2 t (atI y 0) (atI y 1)).state==3
inductive Ga4 (t:aT) (x:List Int):List Int->Prop
 |base:Ga4 t x x
 |step {z y:List Int} (h:Ga4 t x z) (hc:Ra5 t z=true) (hy:y∈Daw t z):Ga4 t x y
theorem Ga4.inst {t:aT}(ht:fD t=true){x y:List Int}(hx:jA t.n x)(h:Ga4 t x y):jA t.n y:=by
 induction h with
 |base=>exact hx
 |step _ _ hy ih=>exact Tas ht ih hy
open Classical in
noncomputable def Gas (t:aT)(x:List Int):List (List Int):=(sM t.n.toNat).filter fun y=>decide (Ga4 t x y/\Ra5 t y=false)
theorem Gar (t:aT)(x:List Int):vN (Gas t x):=by
 unfold Gas;exact (Dao _).filter _
open Classical in
theorem Ia3 {t:aT}(ht:fD t=true){x y:List Int}(hx:jA t.n x):y∈Gas t x↔Ga4 t x y/\Ra5 t y=false:=by
 have h1:=bG (bZ ht);have e:((t.n.toNat:Nat):Int)=t.n:=by omega
 unfold Gas;rw[Tb8,decide_eq_true_eq,yL,e];exact⟨fun h=>h.2,fun h=>⟨h.1.inst ht hx,h⟩⟩
theorem Paa {l:List (List Int)}(h:vN l):l.Nodup:=by
 unfold vN at h;refine h.imp fun {a b} re e=>?_
 subst e;have:=oW.1 re;omega
structure BSt where
 met:List (List Int)
 out:List (List Int)
 wait:List (List Int)
def Ia4 (t:aT)(s:BSt)(y:List Int):BSt:=if s.met.any (fun z=>decide (y=z)) then s else if Ra5 t y then ⟨s.met++[y],s.out,s.wait++[y]⟩ else ⟨s.met++[y],s.out++[y],s.wait⟩
def Lbg (t:aT)(s:BSt):BSt:=let r:=(Daw t (atI s.wait 0)).foldl (Ia4 t) s;⟨r.met,r.out,r.wait.drop 1⟩
structure BPre (t:aT) (x:List Int) (s:BSt):Prop where
 base:x∈s.met
 nd:s.met.Nodup
 rch:∀ y∈s.met,Ga4 t x y
 out:∀ y,y∈s.out↔y∈s.met/\Ra5 t y=false
 ond:s.out.Nodup
 wm:∀ y∈s.wait,y∈s.met/\Ra5 t y=true
structure BInv (t:aT) (x:List Int) (s:BSt):Prop extends BPre t x s where
 cl:∀ z∈s.met,Ra5 t z=true->z∈s.wait\/∀ y∈Daw t z,y∈s.met
theorem Cag {l:List (List Int)}{y:List Int}:(l.any fun z=>decide (y=z))=true↔y∈l:=by
 rw[Tb7];constructor
 ·rintro⟨z,h1,h2⟩
  rw[of_decide_eq_true h2];exact h1
 ·exact fun h=>⟨y,h,by simp⟩
theorem Ka9 {l:List (List Int)}{y:List Int}(h:y∉l):(l.any fun z=>decide (y=z))=false:=by
 cases e:l.any fun z=>decide (y=z) with
 |false=>rfl
 |true=>exact absurd (Cag.1 e) h
theorem pX {l:List (List Int)}{y:List Int}(h:l.Nodup)(hy:y∉l):(l++[y]).Nodup:=by
 rw[List.nodup_append];refine⟨h,by simp,fun a ha b hb e=>?_⟩;rw[Rby.1 hb]at e;exact hy (e▸ha)
theorem Yad {t:aT}{x:List Int}{s:BSt}(h:BPre t x s){y:List Int}(hy:Ga4 t x y) :
  BPre t x (Ia4 t s y)/\y∈(Ia4 t s y).met/\(∀ z∈s.met,z∈(Ia4 t s y).met)/\(∃ w,(Ia4 t s y).wait=s.wait++w)/\(∀ z∈(Ia4 t s y).met,Ra5 t z=true->z∈(Ia4 t s y).wait\/z∈s.met) /\
   (Ia4 t s y).wait.length+s.met.length<=s.wait.length+(Ia4 t s y).met.length:=by
 unfold Ia4;by_cases hm:y∈s.met
 ·rw[Cag.2 hm,if_pos rfl]
  exact⟨h,hm,fun z hz=>hz,⟨[],by simp⟩,fun z hz _=>.inr hz,Sbg _⟩
 ·rw[Ka9 hm]
  simp only[Sbb,if_false];have eW:∀ z,z∈s.met++[y]↔z∈s.met\/z=y:=fun z=>by simp
  cases hc:Ra5 t y with
  | true =>
   simp only[if_true];refine⟨⟨Rbx _ h.base,pX h.nd hm,fun z hz=>?_,fun z=>?_,h.ond,fun z hz=>?_⟩,by simp,fun z hz=>Rbx _ hz,⟨[y],rfl⟩,fun z hz _=>?_,by simp<;>omega⟩
   ·rcases (eW z).1 hz with hz|rfl
    ·exact h.rch z hz
    ·exact hy
   ·rw[h.out,eW]
    constructor
    ·exact fun ⟨h1,h2⟩=>⟨.inl h1,h2⟩
    ·rintro⟨h1|rfl,h2⟩
     ·exact⟨h1,h2⟩
     ·rw[hc]at h2;cases h2
   ·rcases Sbd.1 hz with hz|hz
    ·exact⟨Rbx _ (h.wm z hz).1,(h.wm z hz).2⟩
    ·rw[Rby.1 hz]
     exact⟨by simp,hc⟩
   ·rcases (eW z).1 hz with hz|rfl
    ·exact .inr hz
    ·exact .inl (by simp)
  | false =>
   simp only[Sbb,if_false];refine⟨⟨Rbx _ h.base,pX h.nd hm,fun z hz=>?_,fun z=>?_,pX h.ond (fun hz=>hm ((h.out y).1 hz).1),fun z hz=>?_⟩,by simp,fun z hz=>Rbx _ hz,⟨[],by simp⟩,fun z hz hcz=>?_,by simp<;>omega⟩
   ·rcases (eW z).1 hz with hz|rfl
    ·exact h.rch z hz
    ·exact hy
   ·rw[Sbd,h.out,eW,Rby]
    constructor
    ·rintro (⟨h1,h2⟩|rfl)
     ·exact⟨.inl h1,h2⟩
     ·exact⟨.inr rfl,hc⟩
    ·rintro⟨h1|rfl,h2⟩
     ·exact .inl ⟨h1,h2⟩
     ·exact .inr rfl
   ·exact⟨Rbx _ (h.wm z hz).1,(h.wm z hz).2⟩
   ·rcases (eW z).1 hz with hz|rfl
    ·exact .inr hz
    ·rw[hc]at hcz;cases hcz
theorem Oab {t:aT}{x:List Int}:∀ {ys:List (List Int)} {s:BSt},BPre t x s->(∀ y∈ys,Ga4 t x y) ->
  BPre t x (ys.foldl (Ia4 t) s)/\(∀ y∈ys,y∈(ys.foldl (Ia4 t) s).met)/\(∀ z∈s.met,z∈(ys.foldl (Ia4 t) s).met)/\(∃ w,(ys.foldl (Ia4 t) s).wait=s.wait++w)/\(∀ z∈(ys.foldl (Ia4 t) s).met,Ra5 t z=true->z∈(ys.foldl (Ia4 t) s).wait\/z∈s.met) /\
   (ys.foldl (Ia4 t) s).wait.length+s.met.length<=s.wait.length+(ys.foldl (Ia4 t) s).met.length
 |[],s,h,_=>⟨h,by simp,fun z hz=>hz,⟨[],by simp⟩,fun z hz _=>.inr hz,Sbg _⟩
 | y :: ys, s, h, hr => by
  obtain⟨h1,h2,h3,⟨w,h4⟩,h5,h6⟩:=Yad h (hr y Sbe);obtain⟨k1,k2,k3,⟨w',k4⟩,k5,k6⟩:=Oab (ys:=ys) h1 fun z hz=>hr z (Rb7 _ hz)
  rw[Uba];refine⟨k1,fun z hz=>?_,fun z hz=>k3 z (h3 z hz),⟨w++w',by rw[k4,h4,Rb3]⟩,fun z hz hc=>?_,by omega⟩
  ·rcases Rb4.1 hz with rfl|hz
   ·exact k3 _ h2
   ·exact k2 z hz
  ·rcases k5 z hz hc with h7|h7
   ·exact .inl h7
   ·rcases h5 z h7 hc with h8|h8
    ·exact .inl (by rw[k4];exact Rbx _ h8)
    ·exact .inr h8
theorem BInv.step {t:aT}{x:List Int}{s:BSt}(h:BInv t x s)(hw:s.wait≠[]):BInv t x (Lbg t s)/\(Lbg t s).wait.length+s.met.length<s.wait.length+(Lbg t s).met.length:=by
 obtain⟨z,w,e⟩:∃ z w,s.wait=z::w:=by
  cases hs:s.wait with
  |nil=>exact absurd hs hw
  |cons z w=>exact⟨z,w,rfl⟩
 have nz:atI s.wait 0=z:=by rw[e];rfl
 obtain⟨hzm,qt⟩:=h.wm z (by rw[e];exact Sbe);have hr:∀ y∈Daw t z,Ga4 t x y:=fun y hy=>.step (h.rch z hzm) qt hy
 obtain⟨k1,k2,k3,⟨w',k4⟩,k5,k6⟩:=Oab (ys:=Daw t z) h.toBPre hr;have k4':((Daw t z).foldl (Ia4 t) s).wait.drop 1=w++w':=by rw[k4,e];rfl
 unfold Lbg;rw[nz];dsimp only;refine⟨⟨⟨k1.base,k1.nd,k1.rch,k1.out,k1.ond,fun y hy=>k1.wm y (Tbn hy)⟩,fun y hy hc=>?_⟩,?_⟩
 ·dsimp only at hy ⊢
  by_cases hyz:y=z
  ·subst hyz
   exact .inr k2
  ·rw[k4']
   rcases k5 y hy hc with h1|h1
   ·rw[k4,e]at h1
    rcases Sbd.1 h1 with h1|h1
    ·rcases Rb4.1 h1 with h1|h1
     ·exact absurd h1 hyz
     ·exact .inl (Rbx _ h1)
    ·exact .inl (Rb0 _ h1)
   ·rcases h.cl y h1 hc with h2|h2
    ·rw[e]at h2
     rcases Rb4.1 h2 with h2|h2
     ·exact absurd h2 hyz
     ·exact .inl (Rbx _ h2)
    ·exact .inr fun u hu=>k3 u (h2 u hu)
 ·have:0<((Daw t z).foldl (Ia4 t) s).wait.length:=by rw[k4,e];simp<;>omega
  rw[Sb8];omega
theorem BInv.done {t:aT}(ht:fD t=true){x:List Int}(hx:jA t.n x){s:BSt}(h:BInv t x s)(hw:s.wait=[]):(La4 id (s.out.map prL)).map toL=Gas t x:=by
 have cQ:∀ y,Ga4 t x y->y∈s.met:=by
  intro y hy
  induction hy with
  |base=>exact h.base
  | step _ hc hy ih =>
   rcases h.cl _ ih hc with h1|h1
   ·rw[hw]at h1;cases h1
   ·exact h1 _ hy
 obtain⟨h1,h2⟩:=Ea9 (l:=s.out) (fun y hy=>((h.rch y ((h.out y).1 hy).1).inst ht hx).1) h.ond;refine zC h1 (Gar t x) fun y=>?_
 rw[h2,h.out,Ia3 ht hx];exact⟨fun ⟨h3,h4⟩=>⟨h.rch y h3,h4⟩,fun ⟨h3,h4⟩=>⟨cQ y h3,h4⟩⟩
theorem BPre.len {t:aT}(ht:fD t=true){x:List Int}(hx:jA t.n x){s:BSt}(h:BPre t x s):s.met.length<=30/\s.out.length<=30:=by
 have h1:=Eaf (bZ ht) h.nd fun y hy=>(h.rch y hy).inst ht hx
 have h2:=Eaf (bZ ht) h.ond fun y hy=>(h.rch y ((h.out y).1 hy).1).inst ht hx
 exact⟨h1,h2⟩
def gtL (y x:List Int):Bool:=decide (atI x 0<atI y 0)||((atI y 0==atI x 0)&&decide (atI x 1<atI y 1))
def Eah (l:List (List Int))(x:List Int):Nat->Nat
 |0=>0
 |k+1=>if gtL (atI l (k:Int)) x then Eah l x k else k+1
def Hbx (l:List (List Int))(x:List Int):List (List Int):=l.take (Eah l x l.length)++[x]++l.drop (Eah l x l.length)
theorem War (l:List (List Int))(x:List Int):∀ m,Eah l x m<=m
 |0=>Sbg _
 | m + 1 => by
  unfold Eah;split
  ·exact Nat.le_succ_of_le (War l x m)
  ·exact Sbg _
theorem Was {l:List (List Int)}{x:List Int}:∀ {m j:Nat},Eah l x m<=j->j<m->gtL (atI l (j:Int)) x=true
 |0,j,_,h=>by omega
 | m + 1, j, h, hj => by
  unfold Eah at h;split at h
  ·rename_i hg
   rcases Sbh j m with h1|h1
   ·exact Was h h1
   ·obtain rfl:j=m:=by omega
    exact hg
  ·omega
theorem Waq {l:List (List Int)}{x:List Int}:∀ {m:Nat},0<Eah l x m->gtL (atI l ((Eah l x m-1:Nat):Int)) x=false
 |0,h=>by simp[Eah]at h
 | m + 1, h => by
  unfold Eah at h ⊢;split
  ·rename_i hg
   rw[if_pos hg]at h;exact Waq h
  ·rename_i hg
   simpa using hg
theorem Wa3 {y x:List Int}:gtL y x=true↔ltL x y:=by
 rw[oW];unfold gtL;simp only[Tbk,Rbu,decide_eq_true_eq,beq_iff_eq];omega
theorem Kam {l:List (List Int)}{x y:List Int}:y∈Hbx l x↔y∈l\/y=x:=by
 unfold Hbx
 have e:∀ k,y∈l.take k++[x]++l.drop k↔y∈l\/y=x:=by
  intro k;have h:=Tbx k l;rw[Rb3,Sbd,Sbd,Rby];constructor
  ·rintro (h1|h1|h1)
   ·exact .inl (Ubh h1)
   ·exact .inr h1
   ·exact .inl (Tbn h1)
  ·rintro (h1|h1)
   ·rw[<- h]at h1
    rcases Sbd.1 h1 with h1|h1
    ·exact .inl h1
    ·exact .inr (.inr h1)
   ·exact .inr (.inl h1)
 exact e _
theorem Wap {l:List (List Int)}{x:List Int}(h:vN l)(h2:∀ y∈l,y.length=2)(qq:x.length=2)(hx:x∉l):vN (Hbx l x):=by
 have hk:=War l x l.length;have gl:=Tbx (Eah l x l.length) l
 have nk:∀ y∈l.take (Eah l x l.length),ltL y x:=by
  intro y hy;obtain⟨j,hj⟩:=Tbe.1 hy
  have ni:j<Eah l x l.length:=by
   have:=(Rbw.1 hj).1;rw[Sbn]at this;omega
  rw[List.getElem?_take,if_pos ni]at hj;have vz:=Waq (l:=l) (x:=x) (m:=l.length) (by omega);have kn:Eah l x l.length-1<l.length:=by omega
  rw[bH kn]at vz;have ve:¬ ltL x l[Eah l x l.length-1]:=fun e=>by rw[<- Wa3,vz]at e;cases e
  have dk:l[Eah l x l.length-1]≠x:=fun e=>hx (e▸Tbq kn)
  have nn:ltL l[Eah l x l.length-1] x:=by
   rw[oW]at ve ⊢;have lf:=h2 _ (Tbq kn);generalize l[Eah l x l.length-1]=z at ve dk lf ⊢
   have hz:¬ (atI z 0=atI x 0/\atI z 1=atI x 1):=by
    rintro⟨e1,e2⟩
    match z,x,lf,qq with
    | [a, b], [c, d], _, _ =>
     have e1':a=c:=e1;have e2':b=d:=e2;exact dk (by rw[e1',e2'])
   omega
  rcases Sbh j (Eah l x l.length-1) with h1|h1
  ·unfold vN at h
   rw[Tb2]at h;have a4c:j<l.length:=by omega
   have h3:=h j (Eah l x l.length-1) a4c kn h1;rw[(Rbw.1 hj).2]at h3;rw[oW]at h3 nn ⊢;omega
  ·have e:j=Eah l x l.length-1:=by omega
   subst e;rw[(Rbw.1 hj).2]at nn;exact nn
 have rv:∀ y∈l.drop (Eah l x l.length),ltL x y:=by
  intro y hy;obtain⟨j,hj⟩:=Tbe.1 hy;rw[List.getElem?_drop]at hj;have ni:=(Rbw.1 hj).1;have:=Was (l:=l) (x:=x) (m:=l.length) (j:=Eah l x l.length+j) (by omega) ni;rw[bH ni,(Rbw.1 hj).2]at this;exact Wa3.1 this
 unfold Hbx vN;unfold vN at h;rw[<- gl,List.pairwise_append]at h;rw[Rb3,List.pairwise_append];refine⟨h.1,?_,fun a ha b hb=>?_⟩
 ·rw[List.singleton_append,Tbu]
  exact⟨rv,h.2.1⟩
 ·rcases Sbd.1 hb with hb|hb
  ·rw[Rby.1 hb]
   exact nk a ha
  ·exact h.2.2 a ha b hb
structure SSt where
 met:List (List Int)
 out:List (List Int)
def Uah (t:aT)(s:SSt)(y:List Int):SSt:=if s.met.any (fun z=>decide (y=z))||s.out.any (fun z=>decide (y=z)) then s else if Ra5 t y then ⟨s.met++[y],s.out⟩ else ⟨s.met,Hbx s.out y⟩
def Mbo (t:aT)(s:SSt)(i:Nat):SSt:=(Lbe t (atI (atI s.met (i:Int)) 0) (atI (atI s.met (i:Int)) 1)).foldl (Uah t) s
structure SPre (t:aT) (x:List Int) (s:SSt):Prop where
 base:x∈s.met
 nd:s.met.Nodup
 rch:∀ y∈s.met,Ga4 t x y/\Ra5 t y=true
 och:∀ y∈s.out,Ga4 t x y/\Ra5 t y=false
 srt:vN s.out
structure Ibc (t:aT) (x:List Int) (i:Nat) (s:SSt):Prop extends SPre t x s where
 le:i<=s.met.length
 cl:∀ j,j<i->∀ y∈Daw t (atI s.met (j:Int)),y∈s.met\/y∈s.out
theorem Ua4 {t:aT}(ht:fD t=true){x:List Int}(hx:jA t.n x){s:SSt}(h:SPre t x s){y:List Int}(hy:Ga4 t x y) :
  SPre t x (Uah t s y)/\(y∈(Uah t s y).met\/y∈(Uah t s y).out)/\(∃ m,(Uah t s y).met=s.met++m)/\(∀ z∈s.out,z∈(Uah t s y).out):=by
 unfold Uah;by_cases hm:y∈s.met
 ·rw[Cag.2 hm,Uby,if_pos rfl]
  exact⟨h,.inl hm,⟨[],by simp⟩,fun z hz=>hz⟩
 ·by_cases ho:y∈s.out
  ·rw[Cag.2 ho,Vbe,if_pos rfl]
   exact⟨h,.inr ho,⟨[],by simp⟩,fun z hz=>hz⟩
  ·rw[Ka9 hm,Ka9 ho]
   simp only[Ub7,Sbb,if_false]
   cases hc:Ra5 t y with
   | true =>
    simp only[if_true];refine⟨⟨Rbx _ h.base,pX h.nd hm,fun z hz=>?_,h.och,h.srt⟩,.inl (by simp),⟨[y],rfl⟩,fun z hz=>hz⟩
    rcases Sbd.1 hz with hz|hz
    ·exact h.rch z hz
    ·rw[Rby.1 hz];exact⟨hy,hc⟩
   | false =>
    simp only[Sbb,if_false];refine⟨⟨h.base,h.nd,h.rch,fun z hz=>?_,Wap h.srt (fun z hz=>((h.och z hz).1.inst ht hx).1) (hy.inst ht hx).1 ho⟩,.inr (Kam.2 (.inr rfl)),⟨[],by simp⟩,fun z hz=>Kam.2 (.inl hz)⟩
    rcases Kam.1 hz with hz|rfl
    ·exact h.och z hz
    ·exact⟨hy,hc⟩
theorem Laz {t:aT}(ht:fD t=true){x:List Int}(hx:jA t.n x):∀ {ys:List (List Int)} {s:SSt},SPre t x s->(∀ y∈ys,Ga4 t x y) ->
  SPre t x (ys.foldl (Uah t) s)/\(∀ y∈ys,y∈(ys.foldl (Uah t) s).met\/y∈(ys.foldl (Uah t) s).out)/\(∃ m,(ys.foldl (Uah t) s).met=s.met++m)/\(∀ z∈s.out,z∈(ys.foldl (Uah t) s).out)
 |[],s,h,_=>⟨h,by simp,⟨[],by simp⟩,fun z hz=>hz⟩
 | y :: ys, s, h, hr => by
  obtain⟨h1,h2,⟨m,h3⟩,h4⟩:=Ua4 ht hx h (hr y Sbe);obtain⟨k1,k2,⟨m',k3⟩,k4⟩:=Laz ht hx (ys:=ys) h1 fun z hz=>hr z (Rb7 _ hz)
  rw[Uba];refine⟨k1,fun z hz=>?_,⟨m++m',by rw[k3,h3,Rb3]⟩,fun z hz=>k4 z (h4 z hz)⟩
  rcases Rb4.1 hz with rfl|hz
  ·rcases h2 with h2|h2
   ·exact .inl (by rw[k3];exact Rbx _ h2)
   ·exact .inr (k4 _ h2)
  ·exact k2 z hz
theorem Bb8 {α:Type}[Inhabited α]{l m:List α}{j:Nat}(h:j<l.length):atI (l++m) (j:Int)=atI l (j:Int):=by
 rw[bH h,bH (by rw[Rb8];omega),Vbc h]
theorem Ibc.step {t:aT}(ht:fD t=true){x:List Int}(hx:jA t.n x){i:Nat}{s:SSt}(h:Ibc t x i s)(hi:i<s.met.length):Ibc t x (i+1) (Mbo t s i):=by
 have hzm:=at_mem hi;obtain⟨hzr,qt⟩:=h.rch _ hzm;have ny:=(hzr.inst ht hx).1;unfold Mbo;obtain⟨k1,k2,⟨m,k3⟩,k4⟩:=Laz ht hx (ys:=Lbe t (atI (atI s.met (i:Int)) 0) (atI (atI s.met (i:Int)) 1)) h.toSPre fun y hy=>.step hzr qt ((Na2 ny).1 hy).1
 refine⟨k1,by rw[k3,Rb8];omega,fun j hj y hy=>?_⟩;have ni:j<s.met.length:=by omega
 rw[k3,Bb8 ni]at hy
 rcases Sbh j i with hji|hji
 ·rcases h.cl j hji y hy with h1|h1
  ·exact .inl (by rw[k3];exact Rbx _ h1)
  ·exact .inr (k4 y h1)
 ·obtain rfl:j=i:=by omega
  by_cases e:y=atI s.met (j:Int)
  ·exact .inl (by rw[k3,e];exact Rbx _ hzm)
  ·exact k2 y ((Na2 ny).2 ⟨hy,e⟩)
theorem Ibc.done {t:aT}(ht:fD t=true){x:List Int}(hx:jA t.n x){s:SSt}(h:Ibc t x s.met.length s):s.out=Gas t x:=by
 have cQ:∀ y,Ga4 t x y->y∈s.met\/y∈s.out:=by
  intro y hy
  induction hy with
  |base=>exact .inl h.base
  | step _ hc hy ih =>
   rcases ih with h1|h1
   ·obtain⟨j,hj,e⟩:=Tbg.1 h1
    refine h.cl j hj _ ?_;rw[bH hj,e];exact hy
   ·rw[(h.och _ h1).2]at hc;cases hc
 refine zC h.srt (Gar t x) fun y=>?_
 rw[Ia3 ht hx];refine⟨h.och y,fun ⟨h1,h2⟩=>?_⟩
 rcases cQ y h1 with h3|h3
 ·rw[(h.rch y h3).2]at h2;cases h2
 ·exact h3
theorem SPre.len {t:aT}(ht:fD t=true){x:List Int}(hx:jA t.n x){s:SSt}(h:SPre t x s):s.met.length<=30/\s.out.length<=30:=by
 have h1:=Eaf (bZ ht) h.nd fun y hy=>(h.rch y hy).1.inst ht hx
 have h2:=Eaf (bZ ht) (Paa h.srt) fun y hy=>(h.och y hy).1.inst ht hx
 exact⟨h1,h2⟩
noncomputable def Rbr (t:aT)(x:List Int):Bool:=decide ((0:Int)<((Gas t x).length:Nat))
noncomputable def Maf (t:aT):List (List Int):=(Fbp t.rows).filter fun x=>!Rbr t x
def GOk (G:List (List Int)):Prop:=∀ r∈G,∀ x∈r,InB G x
inductive Rch (G:List (List Int)) (a:Int):Int->Prop
 |refl:Rch G a a
 |step {b c:Int}:Rch G a b->c∈atI G b->Rch G a c
theorem GOk.out {G:List (List Int)}(hg:GOk G){b c:Int}(hb:InB G b)(hc:c∈atI G b):InB G c:=hg _ (vK hb) c hc
theorem Rch.inb {G:List (List Int)}(hg:GOk G){a b:Int}(ha:InB G a)(h:Rch G a b):InB G b:=by
 induction h with
 |refl=>exact ha
 |step _ hc ih=>exact hg.out ih hc
theorem Rch.trans {G:List (List Int)}{a b c:Int}(h:Rch G a b)(h2:Rch G b c):Rch G a c:=by
 induction h2 with
 |refl=>exact h
 |step _ hc ih=>exact .step ih hc
def nums (n:Nat):List Int:=(Vbk n).map fun k:Nat=>(k:Int)
theorem Rah (n:Nat):(nums n).length=n:=by simp[nums]
theorem Ead {n:Nat}{x:Int}:x∈nums n↔0<=x/\x<n:=by
 unfold nums;rw[Sb7];constructor
 ·rintro⟨k,hk,rfl⟩
  rw[Ub1]at hk;omega
 ·rintro⟨h1,h2⟩
  exact⟨x.toNat,Ub1.2 (by omega),by omega⟩
theorem Pam (n:Nat):lM (nums n):=by
 unfold nums lM;rw[List.pairwise_map];exact List.pairwise_lt_range.imp fun {a b} h=>by omega
theorem Caw {l:List Int}(h:lM l):l.Nodup:=by
 unfold lM at h;exact h.imp fun {a b} re e=>by omega
open Classical in
noncomputable def Hbi (G:List (List Int))(a j:Int):Bool:=decide (Rch G a j)
theorem Ja1 {G:List (List Int)}{a j:Int}:Hbi G a j=true↔Rch G a j:=by
 classical
 unfold Hbi;exact decide_eq_true_iff
noncomputable def Sa7 (G:List (List Int))(a:Int):List Int:=(nums G.length).filter (Hbi G a)
theorem xX (G:List (List Int))(a:Int):lM (Sa7 G a):=by
 unfold Sa7 lM;exact List.Pairwise.filter _ (Pam _)
theorem rH {G:List (List Int)}(hg:GOk G){a j:Int}(ha:InB G a):j∈Sa7 G a↔Rch G a j:=by
 unfold Sa7;rw[Tb8,Ja1,Ead];exact⟨fun h=>h.2,fun h=>⟨h.inb hg ha,h⟩⟩
structure GSt where
 marks:List Bool
 todo:List Int
def GSt.left (s:GSt):Nat:=s.todo.length+s.marks.countP fun b=>!b
def gI (s:GSt)(c:Int):GSt:=if atI s.marks c then s else ⟨dI s.marks c true,s.todo++[c]⟩
def gO (G:List (List Int))(s:GSt):GSt:=⟨((atI G (atI s.todo 0)).foldl gI s).marks,((atI G (atI s.todo 0)).foldl gI s).todo.drop 1⟩
structure GPre (G:List (List Int)) (a:Int) (s:GSt):Prop where
 len:s.marks.length=G.length
 rch:∀ j,InB G j->atI s.marks j=true->Rch G a j
 sta:InB G a
 st:atI s.marks a=true
 tm:∀ x∈s.todo,InB G x/\atI s.marks x=true
 cnt:s.left<=G.length
structure GInv (G:List (List Int)) (a:Int) (s:GSt):Prop extends GPre G a s where
 cl:∀ j,InB G j->atI s.marks j=true->j∉s.todo->∀ c∈atI G j,atI s.marks c=true
theorem pO {α:Type}[Inhabited α]{xs:List α}{j k:Int}{x:α}(hj:0<=j)(hk:0<=k)(h:j≠k):atI (dI xs k x) j=atI xs j:=by
 have:k.toNat≠j.toNat:=by omega
 unfold atI dI;rw[Rb5,Rb5,List.getElem?_set_ne this]
theorem uB {α:Type}[Inhabited α]{xs:List α}{k:Int}{x:α}(h:InB xs k):atI (dI xs k x) k=x:=lW.1 h
theorem Gak:∀ {l:List Bool} {i:Nat},i<l.length->l.getD i default=false->(l.set i true).countP (fun b=>!b)+1=l.countP fun b=>!b
 |[],i,h,_=>by simp at h
 | b :: l, 0, _, h => by
  have hb:b=false:=h;subst hb;simp
 | b :: l, i + 1, h, h2 => by
  have:=Gak (l:=l) (i:=i) (by simpa using h) h2;simp only[List.set_cons_succ,List.countP_cons];omega
theorem Ebp {G:List (List Int)}{a:Int}{s:GSt}(h:GPre G a s){c:Int}(hc:InB G c)(hr:Rch G a c) :
  GPre G a (gI s c)/\(∀ j,InB G j->atI s.marks j=true->atI (gI s c).marks j=true)/\atI (gI s c).marks c=true/\(∃ w,(gI s c).todo=s.todo++w)/\(∀ j,InB G j->atI (gI s c).marks j=true->atI s.marks j=true\/j∈(gI s c).todo)/\(gI s c).left=s.left:=by
 unfold gI
 cases hm:atI s.marks c with
 |true=>exact⟨h,fun _ _ hj=>hj,hm,⟨[],by simp⟩,fun _ _ hj=>.inl hj,rfl⟩
 | false =>
  have wi:InB s.marks c:=by unfold InB at hc ⊢;rw[h.len];exact hc
  have tl:∀ j,InB G j->atI s.marks j=true->atI (dI s.marks c true) j=true:=by
   intro j hj lR;by_cases e:j=c
   ·subst e;exact uB wi
   ·rw[pO hj.1 hc.1 e];exact lR
  have uz:GSt.left ⟨dI s.marks c true,s.todo++[c]⟩=s.left:=by
   unfold GSt.left dI;have:=Gak (l:=s.marks) (i:=c.toNat) wi.lt hm;simp only[Rb8,Sbm,List.length_nil];omega
  simp only[Sbb,if_false];refine⟨⟨by dsimp only;rw[rC];exact h.len,fun j hj lR=>?_,h.sta,tl a h.sta h.st,fun x hx=>?_,by rw[uz];exact h.cnt⟩,tl,uB wi,⟨[c],rfl⟩,fun j hj lR=>?_,uz⟩
  ·by_cases e:j=c
   ·subst e;exact hr
   ·dsimp only at lR
    rw[pO hj.1 hc.1 e]at lR;exact h.rch j hj lR
  ·rcases Sbd.1 hx with hx|hx
   ·exact⟨(h.tm x hx).1,tl x (h.tm x hx).1 (h.tm x hx).2⟩
   ·rw[Rby]at hx
    subst hx;exact⟨hc,uB wi⟩
  ·by_cases e:j=c
   ·subst e;exact .inr (by simp)
   ·try dsimp only at lR
    rw[pO hj.1 hc.1 e]at lR;exact .inl lR
theorem Wa6 {G:List (List Int)}{a:Int}:∀ {ys:List Int} {s:GSt},GPre G a s->(∀ c∈ys,InB G c/\Rch G a c) ->
  GPre G a (ys.foldl gI s)/\(∀ j,InB G j->atI s.marks j=true->atI (ys.foldl gI s).marks j=true)/\(∀ c∈ys,atI (ys.foldl gI s).marks c=true)/\(∃ w,(ys.foldl gI s).todo=s.todo++w)/\(∀ j,InB G j->atI (ys.foldl gI s).marks j=true->atI s.marks j=true\/j∈(ys.foldl gI s).todo)/\(ys.foldl gI s).left=s.left
 |[],s,h,_=>⟨h,fun _ _ hj=>hj,fun _ hc=>(by cases hc),⟨[],by simp⟩,fun _ _ hj=>.inl hj,rfl⟩
 | y :: ys, s, h, hy => by
  obtain⟨h1,h2⟩:=hy y Sbe;obtain⟨k1,k2,k3,⟨w1,k4⟩,k5,k6⟩:=Ebp h h1 h2;obtain⟨l1,l2,l3,⟨w2,l4⟩,l5,l6⟩:=Wa6 (ys:=ys) k1 fun c hc=>hy c (Rb7 _ hc)
  rw[Uba];refine⟨l1,fun j hj lR=>l2 j hj (k2 j hj lR),fun c hc=>?_,⟨w1++w2,by rw[l4,k4,Rb3]⟩,fun j hj lR=>?_,by rw[l6,k6]⟩
  ·rcases Rb4.1 hc with hc|hc
   ·subst hc;exact l2 c h1 k3
   ·exact l3 c hc
  ·rcases l5 j hj lR with h3|h3
   ·rcases k5 j hj h3 with h4|h4
    ·exact .inl h4
    ·exact .inr (by rw[l4];exact Rbx _ h4)
   ·exact .inr h3
theorem GInv.step {G:List (List Int)}(hg:GOk G){a:Int}{s:GSt}(h:GInv G a s)(hw:s.todo≠[]):GInv G a (gO G s)/\(gO G s).left+1=s.left/\GPre G a ((atI G (atI s.todo 0)).foldl gI s):=by
 have hb:InB s.todo 0:=by
  have:=List.length_pos_iff.2 hw;unfold InB;omega
 obtain⟨z1,z2⟩:=h.tm _ (vK hb);have zr:=h.rch _ z1 z2;have y2:∀ c∈atI G (atI s.todo 0),InB G c/\Rch G a c:=fun c hc=>⟨hg.out z1 hc,.step zr hc⟩
 obtain⟨l1,l2,l3,⟨w,l4⟩,l5,l6⟩:=Wa6 h.toGPre y2
 obtain⟨t,ht⟩:∃ t,s.todo=atI s.todo 0::t:=by
  cases e:s.todo with
  |nil=>exact absurd e hw
  |cons x t=>exact⟨t,rfl⟩
 unfold gO;generalize atI s.todo 0=z at *;generalize (atI G z).foldl gI s=u at *;rw[ht,List.cons_append]at l4
 have a1h:GSt.left ⟨u.marks,u.todo.drop 1⟩+1=s.left:=by
  rw[<- l6];unfold GSt.left;rw[l4];simp only[List.drop_succ_cons,List.drop_zero,Sbm];omega
 refine⟨⟨⟨l1.len,l1.rch,l1.sta,l1.st,fun x hx=>l1.tm x (Tbn hx),by have:=h.cnt;omega⟩,fun j hj lR hj3 c hc=>?_⟩,a1h,l1⟩;dsimp only at lR hj3 ⊢;by_cases e:j=z
 ·subst e
  exact l3 c hc
 ·have hju:j∉u.todo:=by
   rw[l4]at hj3 ⊢;intro hm
   rcases Rb4.1 hm with h1|h1
   ·exact e h1
   ·exact hj3 (by simpa using h1)
  rcases l5 j hj lR with h1|h1
  ·have h2:j∉s.todo:=fun hm=>hju (by
    rw[ht]at hm;rw[l4]
    rcases Rb4.1 hm with h1|h1
    ·exact absurd h1 e
    ·exact Rb7 _ (Rbx _ h1))
   exact l2 c (hg.out hj hc) (h.cl j hj h1 h2 c hc)
  ·exact absurd h1 hju
theorem GInv.done {G:List (List Int)}(hg:GOk G){a:Int}{s:GSt}(h:GInv G a s)(hw:s.todo=[]){j:Int}(hj:InB G j):atI s.marks j=Hbi G a j:=by
 have cQ:∀ b,Rch G a b->InB G b/\atI s.marks b=true:=by
  intro b hb
  induction hb with
  |refl=>exact⟨h.sta,h.st⟩
  |step _ hc ih=>exact⟨hg.out ih.1 hc,h.cl _ ih.1 ih.2 (by rw[hw];simp) _ hc⟩
 rw[Bool.eq_iff_iff,Ja1];exact⟨h.rch j hj,fun hr=>(cQ j hr).2⟩
structure HSt where
 met:List Int
 que:List Int
def hI (s:HSt)(c:Int):HSt:=if Ba4 s.que c then s else ⟨Rac s.met c,s.que++[c]⟩
theorem wJ {xs:List Int}{n:Int}:Ba4 xs n=true↔n∈xs:=by
 unfold Ba4;rw[Tb7];constructor
 ·rintro⟨x,hx,e⟩
  rw[<- beq_iff_eq.1 e];exact hx
 ·exact fun h=>⟨n,h,by simp⟩
structure HPre (G:List (List Int)) (a:Int) (s:HSt):Prop where
 rch:∀ x∈s.que,Rch G a x
 nd:s.que.Nodup
 srt:lM s.met
 eq:∀ x,x∈s.met↔x∈s.que
 sta:InB G a
 st:a∈s.que
structure Ibf (G:List (List Int)) (a:Int) (i:Nat) (s:HSt):Prop extends HPre G a s where
 le:i<=s.que.length
 cl:∀ k:Nat,k<i->∀ c∈atI G (atI s.que (k:Int)),c∈s.que
theorem HPre.len {G:List (List Int)}(hg:GOk G){a:Int}{s:HSt}(h:HPre G a s):s.que.length<=G.length/\s.met.length<=G.length:=by
 have h1:∀ x∈s.que,x∈nums G.length:=fun x hx=>Ead.2 ((h.rch x hx).inb hg h.sta)
 have h2:=pY h.nd h1;have h3:=pY (Caw h.srt) fun x hx=>h1 x ((h.eq x).1 hx)
 rw[Rah]at h2 h3;exact⟨h2,h3⟩
theorem Ebk {G:List (List Int)}{a:Int}{s:HSt}(h:HPre G a s){c:Int}(hr:Rch G a c):HPre G a (hI s c)/\c∈(hI s c).que/\∃ w,(hI s c).que=s.que++w:=by
 unfold hI
 cases hm:Ba4 s.que c with
 |true=>exact⟨h,wJ.1 hm,[],by simp⟩
 | false =>
  have hn:c∉s.que:=fun e=>by rw[wJ.2 e]at hm;cases hm
  simp only[Sbb,if_false];refine⟨⟨fun x hx=>?_,?_,Faf h.srt,fun x=>?_,h.sta,Rbx _ h.st⟩,by simp,[c],rfl⟩
  ·rcases Sbd.1 hx with hx|hx
   ·exact h.rch x hx
   ·rw[Rby.1 hx];exact hr
  ·exact List.nodup_append.2 ⟨h.nd,by simp,fun x hx y hy e=>hn (by rw[Rby]at hy;rw[<- hy,<- e];exact hx)⟩
  ·rw[Ja4,h.eq]
   simp
theorem Wa2 {G:List (List Int)}{a:Int}:∀ {ys:List Int} {s:HSt},HPre G a s->(∀ c∈ys,Rch G a c)->HPre G a (ys.foldl hI s)/\(∀ c∈ys,c∈(ys.foldl hI s).que)/\∃ w,(ys.foldl hI s).que=s.que++w
 |[],s,h,_=>⟨h,fun _ hc=>(by cases hc),[],by simp⟩
 | y :: ys, s, h, hy => by
  obtain⟨k1,k2,w1,k3⟩:=Ebk h (hy y Sbe);obtain⟨l1,l2,w2,l3⟩:=Wa2 (ys:=ys) k1 fun c hc=>hy c (Rb7 _ hc)
  rw[Uba];refine⟨l1,fun c hc=>?_,w1++w2,by rw[l3,k3,Rb3]⟩
  rcases Rb4.1 hc with hc|hc
  ·subst hc
   rw[l3];exact Rbx _ k2
  ·exact l2 c hc
theorem Ibf.step {G:List (List Int)}{a:Int}{i:Nat}{s:HSt}(h:Ibf G a i s)(hi:i<s.que.length):Ibf G a (i+1) ((atI G (atI s.que (i:Int))).foldl hI s):=by
 have hz:=h.rch _ (at_mem hi);obtain⟨l1,l2,w,l3⟩:=Wa2 h.toHPre (ys:=atI G (atI s.que (i:Int))) fun c hc=>.step hz hc
 generalize he:(atI G (atI s.que (i:Int))).foldl hI s=u at *
 have jn:∀ k:Nat,k<s.que.length->atI u.que (k:Int)=atI s.que (k:Int):=by
  intro k hk;rw[l3,bH (by rw[Rb8];omega),bH hk,Vbc hk]
 refine⟨l1,by rw[l3,Rb8];omega,fun k hk c hc=>?_⟩;rw[jn k (by omega)]at hc
 rcases Sbh k i with h1|h1
 ·rw[l3]
  exact Rbx _ (h.cl k h1 c hc)
 ·obtain rfl:k=i:=by omega
  exact l2 c hc
theorem Ibf.done {G:List (List Int)}(hg:GOk G){a:Int}{s:HSt}(h:Ibf G a s.que.length s):s.met=Sa7 G a:=by
 refine Bat h.srt (xX _ _) fun x=>?_
 rw[h.eq,rH hg h.sta];refine⟨h.rch x,fun hr=>?_⟩
 induction hr with
 |refl=>exact h.st
 | step _ hc ih =>
  obtain⟨k,hk,e⟩:=Tbg.1 ih;exact h.cl k hk _ (by rw[bH hk,e];exact hc)
noncomputable def Tat (G:List (List Int))(a:Int):List Int:=(Sa7 G a).filter fun j=>Hbi G j a
theorem mJ {G:List (List Int)}(hg:GOk G){a j:Int}(ha:InB G a):j∈Tat G a↔Rch G a j/\Rch G j a:=by
 unfold Tat;rw[Tb8,Ja1,rH hg ha]
theorem Fay (G:List (List Int))(a:Int):lM (Tat G a):=List.Pairwise.filter _ (xX G a)
theorem Wa4 {G:List (List Int)}(hg:GOk G){a:Int}(ha:InB G a):a∈Tat G a:=(mJ hg ha).2 ⟨.refl,.refl⟩
theorem Wa5 {G:List (List Int)}(hg:GOk G){a j:Int}(ha:InB G a)(hj:j∈Tat G a):Tat G j=Tat G a:=by
 obtain⟨h1,h2⟩:=(mJ hg ha).1 hj;refine Bat (Fay _ _) (Fay _ _) fun x=>?_
 rw[mJ hg (h1.inb hg ha),mJ hg ha];exact⟨fun h=>⟨h1.trans h.1,h.2.trans h2⟩,fun h=>⟨h2.trans h.1,h.2.trans h1⟩⟩
noncomputable def Dal (G:List (List Int)):List (List Int):=((nums G.length).filter fun i=>atI (Tat G i) 0==i).map (Tat G)
theorem Bbb {l:List Int}(h:l≠[]):atI l 0∈l:=vK (by have:=List.length_pos_iff.2 h;unfold InB;omega)
theorem Aa6 {G:List (List Int)}{C:List Int}(h:C∈Dal G):∃ a,InB G a/\C=Tat G a/\atI C 0=a:=by
 unfold Dal at h;obtain⟨a,ha,rfl⟩:=Sb7.1 h;obtain⟨h1,h2⟩:=Tb8.1 ha;exact⟨a,Ead.1 h1,rfl,beq_iff_eq.1 h2⟩
theorem Ta9 {G:List (List Int)}(hg:GOk G){j:Int}(hj:InB G j):∃ C∈Dal G,j∈C:=by
 have hs:=Wa4 hg hj;have hm:=Bbb (List.ne_nil_of_mem hs);have hi:=((mJ hg hj).1 hm).1.inb hg hj;have he:=Wa5 hg hj hm;refine⟨Tat G (atI (Tat G j) 0),Sb7.2 ⟨_,Tb8.2 ⟨Ead.2 hi,?_⟩,rfl⟩,by rw[he];exact hs⟩;rw[he];simp
theorem Ta8 (G:List (List Int)):(Dal G).length<=G.length:=by
 unfold Dal;rw[Sbr];have:=List.length_filter_le (fun i=>atI (Tat G i) 0==i) (nums G.length);rw[Rah]at this;exact this
structure CSt where
 rest:List (List Int)
 out:List (List Int)
structure Yaq (G:List (List Int)) (s:CSt):Prop where
 nd:(s.rest++s.out).Nodup
 mem:∀ C,C∈s.rest++s.out↔C∈Dal G
 cl:∀ C∈s.out,∀ j∈C,∀ k,Rch G j k->∃ D∈s.out,k∈D
def Ebu (out:List (List Int))(j:Int):Bool:=out.any fun D=>Ba4 D j
theorem Na0 {out:List (List Int)}{j:Int}:Ebu out j=true↔∃ D∈out,j∈D:=by
 unfold Ebu;rw[Tb7];constructor
 ·rintro⟨D,h1,h2⟩;exact⟨D,h1,wJ.1 h2⟩
 ·rintro⟨D,h1,h2⟩;exact⟨D,h1,wJ.2 h2⟩
noncomputable def Haj (G:List (List Int))(out:List (List Int))(C:List Int):Bool:=(Sa7 G (atI C 0)).all fun j=>Ebu out j||Ba4 C j
theorem Fa2 {G:List (List Int)}(hg:GOk G){out:List (List Int)}{C:List Int}(hC:InB G (atI C 0)):Haj G out C=true↔∀ j,Rch G (atI C 0) j->(∃ D∈out,j∈D)\/j∈C:=by
 unfold Haj;rw[Sbp];constructor
 ·intro h j hj
  have:=h j ((rH hg hC).2 hj);rw[Tbk,Na0,wJ]at this;exact this
 ·intro h j hj
  rw[Tbk,Na0,wJ];exact h j ((rH hg hC).1 hj)
theorem Yaq.sub {G:List (List Int)}{s:CSt}(h:Yaq G s){C:List Int}(hC:C∈s.rest):C∈Dal G:=(h.mem C).1 (Rbx _ hC)
theorem Wa7 {G:List (List Int)}(hg:GOk G){s:CSt}(h:Yaq G s):∀ (n:Nat) (C:List Int),C∈s.rest->(Sa7 G (atI C 0)).length<=n->∃ D∈s.rest,Haj G s.out D=true
 | n, C, hC, hn => by
  obtain⟨a,ha,he,wq⟩:=Aa6 (h.sub hC);have wy:InB G (atI C 0):=by rw[wq];exact ha
  by_cases hf:Haj G s.out C=true
  ·exact⟨C,hC,hf⟩
  rw[Fa2 hg wy]at hf;obtain⟨j,hf⟩:=Classical.not_forall.1 hf;obtain⟨hj,hf⟩:=Classical.not_imp.1 hf;rw[not_or]at hf;obtain⟨D,hD,hjD⟩:=Ta9 hg (hj.inb hg wy)
  have hDr:D∈s.rest:=by
   rcases Sbd.1 ((h.mem D).2 hD) with h1|h1
   ·exact h1
   ·exact absurd ⟨D,h1,hjD⟩ hf.1
  obtain⟨b,hb,hDe,heb⟩:=Aa6 hD;have hD0:InB G (atI D 0):=by rw[heb];exact hb
  have hjb:=(mJ hg hb).1 (by rw[<- hDe];exact hjD);rw[<- heb]at hjb
  have hna:¬ Rch G (atI D 0) (atI C 0):=fun hr=>hf.2 (by
   rw[he,mJ hg ha,<- wq];exact⟨hj,hjb.2.trans hr⟩)
  have aw:(Sa7 G (atI D 0)).length<(Sa7 G (atI C 0)).length:=by
   have eW:atI C 0∈Sa7 G (atI C 0):=(rH hg wy).2 .refl
   have h1:=pY (l:=Sa7 G (atI D 0)) (m:=(Sa7 G (atI C 0)).erase (atI C 0)) (Caw (xX _ _)) fun x hx=>by
    have qq:=(rH hg hD0).1 hx;refine (List.mem_erase_of_ne fun e=>hna ?_).2 ((rH hg wy).2 ((hj.trans hjb.2).trans qq));rw[<- e];exact qq
   have h2:=List.length_erase_of_mem eW;have h3:=List.length_pos_of_mem eW;omega
  match n with
  |0=>omega
  |n+1=>exact Wa7 hg h n D hDr (by omega)
noncomputable def Saf (G:List (List Int))(s:CSt):Nat:=(ixF (Haj G s.out) s.rest).toNat
noncomputable def cO (G:List (List Int))(s:CSt):CSt:=⟨s.rest.take (Saf G s)++s.rest.drop (Saf G s+1),s.out++[atI s.rest (Saf G s)]⟩
theorem Yaq.top {G:List (List Int)}(hg:GOk G){s:CSt}(h:Yaq G s)(hr:s.rest≠[]):Saf G s<s.rest.length/\ixF (Haj G s.out) s.rest=(Saf G s:Int)/\Haj G s.out (atI s.rest (Saf G s))=true/\∀ k:Nat,k<Saf G s->Haj G s.out (atI s.rest (k:Int))=false:=by
 obtain⟨C,hC⟩:=List.exists_mem_of_ne_nil _ hr;obtain⟨D,hD,hf⟩:=Wa7 hg h _ C hC (Sbg _);obtain⟨k,hk,rfl⟩:=Tbg.1 hD;have h0:0<=ixF (Haj G s.out) s.rest:=Hbt hk (by rw[bH hk];exact hf);obtain⟨h1,h2,h3⟩:=Ab6 h0;have e:ixF (Haj G s.out) s.rest=(Saf G s:Int):=by unfold Saf;omega
 rw[e]at h1 h2;refine⟨aU.1 h1,e,h2,fun k hk=>h3 k ?_⟩;rw[e];omega
theorem Eb1 {l out:List (List Int)}{i:Nat}(h:i<l.length):((l.take i++l.drop (i+1))++(out++[atI l (i:Int)])).Perm (l++out):=by
 have e:l=l.take i++atI l (i:Int)::l.drop (i+1):=by
  rw[bH h,<- Tbp h,Tbx]
 conv=>rhs;rw[e]
 generalize l.take i=A;generalize l.drop (i+1)=B;generalize atI l (i:Int)=C;rw[List.perm_iff_count];intro x;simp only[List.count_append,List.count_cons,List.count_nil];omega
theorem Yaq.step {G:List (List Int)}(hg:GOk G){s:CSt}(h:Yaq G s)(hr:s.rest≠[]):Yaq G (cO G s)/\(cO G s).rest.length+1=s.rest.length:=by
 obtain⟨h1,h2,h3,-⟩:=h.top hg hr;have hp:=Eb1 (out:=s.out) h1;have hCr:atI s.rest (Saf G s:Int)∈s.rest:=at_mem h1;unfold cO;generalize Saf G s=i at *;refine⟨⟨hp.nodup_iff.2 h.nd,fun C=>by rw[hp.mem_iff];exact h.mem C,fun C hC j hj k hk=>?_⟩,by simp only[Rb8,Sbn,Sb8];omega⟩;dsimp only at hC ⊢
 rcases Sbd.1 hC with hC|hC
 ·obtain⟨D,hD,hkD⟩:=h.cl C hC j hj k hk
  exact⟨D,Rbx _ hD,hkD⟩
 ·rw[Rby]at hC
  subst hC;obtain⟨a,ha,he,wq⟩:=Aa6 (h.sub hCr);have wy:InB G (atI (atI s.rest (i:Int)) 0):=by rw[wq];exact ha
  have hja:=(mJ hg ha).1 (by rw[<- he];exact hj)
  rcases (Fa2 hg wy).1 h3 k (by rw[wq];exact hja.1.trans hk) with ⟨D,hD,hkD⟩|hkC
  ·exact⟨D,Rbx _ hD,hkD⟩
  ·exact⟨_,Rb0 _ (Rby.2 rfl),hkC⟩
theorem Bbc {α:Type}[Inhabited α]{xs:List α}{p:α->Bool}{k:Nat}(h:k<xs.length):(xs.take (k+1)).filter p=(xs.take k).filter p++if p (atI xs (k:Int)) then [atI xs (k:Int)] else []:=by
 rw[<- take_at h,List.filter_append];congr 1;cases hp:p (atI xs (k:Int))
 ·rw[List.filter_cons_of_neg (by rw[hp];simp)];rfl
 ·rw[List.filter_cons_of_pos hp];rfl
theorem Yaq.len {G:List (List Int)}{s:CSt}(h:Yaq G s):s.rest.length+s.out.length<=G.length:=by
 have h1:=pY h.nd (m:=Dal G) fun C hC=>(h.mem C).1 hC
 rw[Rb8]at h1;exact Sb1 h1 (Ta8 G)
theorem Sa6 {t:aT}{x:List Int}(h:x∈Maf t):x∈Fbp t.rows:=by
 unfold Maf at h;exact (Tb8.1 h).1
theorem Fae {t:aT}(ht:fD t=true){x:List Int}(h:x∈Maf t):jA t.n x/\(Da2 t (atI x 0) (atI x 1)).state=3/\x=[atI x 0,atI x 1]/\InB x 0/\InB x 1:=by
 obtain⟨a,b,h1,h2,h3⟩:=Xaw ht (Sa6 h);exact⟨⟨h1,h2⟩,h3,(xU h1).symm,a,b⟩
def Eba (t:aT)(x:List Int):Int:=100*(Da2 t (atI x 0) (atI x 1)).attr.seq+10*atI x 0+atI x 1
theorem Fac {n:Int}{r:bD}(h:rowOk n r=true):0<=r.attr.seq/\r.attr.seq<=999:=by
 unfold rowOk at h;simp only[Rbu]at h;obtain⟨-,h⟩:=h;split at h
 ·simp only[Rbu,decide_eq_true_eq]at h
  rw[h.2];unfold none0;simp
 ·simp only[Rbu]at h
  have:=h.2;unfold gD inR at this;simp only[Rbu,decide_eq_true_eq]at this;omega
theorem Rar {t:aT}(ht:fD t=true){x:List Int}(h:jA t.n x):0<=(Da2 t (atI x 0) (atI x 1)).attr.seq/\(Da2 t (atI x 0) (atI x 1)).attr.seq<=999/\0<=atI x 0/\atI x 0<=4/\1<=atI x 1/\atI x 1<=6:=by
 have h1:=Fac (Oap ht h.2);have h2:=jM h.2;have h3:=bG (bZ ht);omega
theorem Ab3 {t:aT}(ht:fD t=true){x y:List Int}(hx:jA t.n x)(hy:jA t.n y)(h:Eba t x=Eba t y):x=y:=by
 have h1:=Rar ht hx;have h2:=Rar ht hy;unfold Eba at h;rw[<- xU hx.1,<- xU hy.1];unfold toL prL;dsimp only;have e1:atI x 0=atI y 0:=by omega
 have e2:atI x 1=atI y 1:=by omega
 rw[e1,e2]
theorem Bbf {n:Int}{l:List bD}{no:Int}(h:no<=l.length):ext n l no=l:=by
 unfold ext;rw[show (no-l.length).toNat=0 by omega,List.replicate_zero,List.append_nil]
def Lb8 (rd:List (List Int))(s:aT)(k:Nat)(i:Nat):aT:=if decide (Xac rd [(k:Int),(i:Int)+1]<0) then Cam s (k:Int) ((i:Int)+1) (row0 s.n) else s
def Lbf (rd:List (List Int))(k:Nat):Nat->aT->aT
 |0,s=>s
 |m+1,s=>Lb8 rd (Lbf rd k m s) k m
def Lb7 (rd:List (List Int))(t:aT):Nat->aT
 |0=>t
 |k+1=>Lbf rd k (atI t.rows (k:Int)).length (Lb7 rd t k)
theorem Nan {rd:List (List Int)}{x:List Int}:Xac rd x<0↔x∉rd:=by
 have h:=iT (fun y=>decide (x=y)) rd;constructor
 ·intro h1 hm
  have:rd.any (fun y=>decide (x=y))=true:=Tb7.2 ⟨x,hm,by simp⟩;rw[this,decide_eq_true_eq]at h;unfold Xac at h1;omega
 ·intro hm
  have:rd.any (fun y=>decide (x=y))=false:=by
   rw[Tb1];intro y hy e;exact hm (by rw[of_decide_eq_true e];exact hy)
  rw[this,decide_eq_false_iff_not]at h;unfold Xac;omega
structure Uam (rd:List (List Int)) (t s:aT) (k m:Nat):Prop where
 ok:fD s=true
 n:s.n=t.n
 len:∀ j:Nat,(atI s.rows (j:Int)).length=(atI t.rows (j:Int)).length
 row:∀ rep no,inst t.n rep no=true->Da2 s rep no=if (rep<k\/(rep=k/\no<=m))/\[rep,no]∉rd then row0 t.n else Da2 t rep no
theorem Uam.rowsLen {rd:List (List Int)}{t s:aT}{k m:Nat}(ht:fD t=true)(h:Uam rd t s k m):s.rows.length=t.rows.length:=by
 have h1:=iO ht;have h2:=iO h.ok;have h3:=h.n;omega
theorem Uam.stepS {rd:List (List Int)}{t s:aT}{k m:Nat}(ht:fD t=true)(h:Uam rd t s k m)(hk:k<t.rows.length)(hm:m<(atI t.rows (k:Int)).length):Uam rd t (Lb8 rd s k m) k (m+1):=by
 have hlen:=iO ht;have h6:=(iG ht (at_mem hk)).1
 have hi:inst t.n (k:Int) ((m:Int)+1)=true:=by
  unfold inst inR;simp only[Rbu,decide_eq_true_eq];omega
 have gy:inst s.n (k:Int) ((m:Int)+1)=true:=by rw[h.n];exact hi
 unfold Lb8;cases hf:decide (Xac rd [(k:Int),(m:Int)+1]<0)
 ·have kb:[(k:Int),(m:Int)+1]∈rd:=by
   rw[decide_eq_false_iff_not,Nan]at hf;exact Classical.not_not.1 hf
  refine⟨h.ok,h.n,h.len,fun rep no hr=>?_⟩;simp only[Sbb,if_false];rw[h.row rep no hr];have h0:=jM hr;by_cases e:rep=(k:Int)/\no=(m:Int)+1
  ·obtain⟨e1,e2⟩:=e
   subst e1;subst e2
   rw[if_neg (fun hh=>hh.2 kb),if_neg (fun hh=>hh.2 kb)]
  ·have:(rep<(k:Int)\/rep=(k:Int)/\no<=(m:Int))↔(rep<(k:Int)\/rep=(k:Int)/\no<=((m+1:Nat):Int)):=by omega
   simp only[this]
 ·have tG:[(k:Int),(m:Int)+1]∉rd:=Nan.1 (of_decide_eq_true hf)
  simp only[if_true];refine⟨Uap h.ok gy (by rw[h.n];exact Vae (bZ ht)),by unfold Cam;exact h.n,fun j=>?_,fun rep no hr=>?_⟩
  ·have pZ:InB s.rows (k:Int):=aU.2 (by rw[h.rowsLen ht];exact hk)
   unfold Cam;dsimp only;by_cases e:j=k
   ·subst e
    rw[uB pZ,rC,Bbf (by rw[h.len];omega),h.len]
   ·rw[pO (by omega) (by omega) (by omega),h.len]
  ·rw[Uaq h.ok gy (by rw[h.n];exact hr),h.row rep no hr,h.n]
   have h0:=jM hr;by_cases e:rep=(k:Int)/\no=(m:Int)+1
   ·obtain⟨e1,e2⟩:=e
    subst e1;subst e2
    rw[if_pos ⟨rfl,rfl⟩,if_pos ⟨.inr ⟨rfl,by omega⟩,tG⟩]
   ·rw[if_neg e]
    have:(rep<(k:Int)\/rep=(k:Int)/\no<=(m:Int))↔(rep<(k:Int)\/rep=(k:Int)/\no<=((m+1:Nat):Int)):=by omega
    simp only[this]
theorem Uam.stepN {rd:List (List Int)}{t s:aT}{k:Nat}(ht:fD t=true)(h:Uam rd t s k 0)(hk:k<t.rows.length):∀ m,m<=(atI t.rows (k:Int)).length->Uam rd t (Lbf rd k m s) k m
 |0,_=>h
 |m+1,hm=>(Uam.stepN ht h hk m (by omega)).stepS ht hk (by omega)
theorem Uam.all {rd:List (List Int)}{t:aT}(ht:fD t=true)(jk:∀ x∈rd,x∈Fbp t.rows):∀ k,k<=t.rows.length->Uam rd t (Lb7 rd t k) k 0
 | 0, _ => by
  refine⟨ht,rfl,fun _=>rfl,fun rep no hr=>?_⟩;have h0:=jM hr;rw[if_neg (by omega)];rfl
 | k + 1, hk => by
  have h:=(Uam.all ht jk k (by omega)).stepN ht (by omega) (atI t.rows (k:Int)).length (Sbg _);refine⟨h.ok,h.n,h.len,fun rep no hr=>?_⟩;show Da2 (Lbf rd k _ (Lb7 rd t k)) rep no=_
  rw[h.row rep no hr];have h0:=jM hr;by_cases e:rep=(k:Int)/\¬ no<=((atI t.rows (k:Int)).length:Int)
  ·obtain⟨e1,e2⟩:=e
   have er:Da2 t rep no=row0 t.n:=by
    unfold Da2;rw[e1,if_neg e2]
   rw[er,ite_self,ite_self]
  ·have:(rep<(k:Int)\/rep=(k:Int)/\no<=((atI t.rows (k:Int)).length:Int))↔(rep<((k+1:Nat):Int)\/rep=((k+1:Nat):Int)/\no<=((0:Nat):Int)):=by omega
   simp only[this]
section
variable {T:Nat->Ent} {β:Type}
end
def Pab (c:kP)(rep no:Int)(k i:Nat)(r:bD):Bool:=r.state==0||!uS c r.cmd||((k:Int)==rep&&(i:Int)+1==no)
def sK (c:kP)(rep no:Int)(k:Nat)(l:List bD)(a:cZ):Nat->cZ
 |0=>a
 | i + 1 => if Pab c rep no k i (atI l (i : Int)) then sK c rep no k l a i
  else ⟨max (sK c rep no k l a i).seq (atI l (i:Int)).attr.seq,dI (sK c rep no k l a i).deps (k:Int) ((i:Int)+1)⟩
def wS (t:aT)(c:kP)(rep no:Int):Nat->cZ
 |0=>⟨0,Sbi t.n.toNat 0⟩
 |k+1=>sK c rep no k (atI t.rows (k:Int)) (wS t c rep no k) (atI t.rows (k:Int)).length
def Caf (t:aT)(c:kP)(rep no:Int):cZ:=⟨(wS t c rep no t.rows.length).seq+1,(wS t c rep no t.rows.length).deps⟩
theorem Gav {c:kP}{rep no:Int}{k:Nat}{l:List bD}{a:cZ}{M:Int}(h0:0<=a.seq)(h1:a.seq<=M):∀ i,i<=l.length->(∀ r∈l,r.attr.seq<=M) ->
  (sK c rep no k l a i).deps.length=a.deps.length/\0<=(sK c rep no k l a i).seq/\(sK c rep no k l a i).seq<=M
 |0,_,_=>⟨rfl,h0,h1⟩
 | i + 1, hi, hr => by
  obtain⟨h2,h3,h4⟩:=Gav (c:=c) (rep:=rep) (no:=no) (k:=k) h0 h1 i (by omega) hr;have h5:=hr _ (at_mem (show i<l.length by omega));unfold sK;split
  ·exact⟨h2,h3,h4⟩
  ·exact⟨by simp only[rC];exact h2,by simp only;omega,by simp only;omega⟩
theorem Gau {t:aT}{c:kP}{rep no:Int}{M:Int}(hM:0<=M):∀ k,k<=t.rows.length->(∀ l∈t.rows,∀ r∈l,r.attr.seq<=M) ->
  (wS t c rep no k).deps.length=t.n.toNat/\0<=(wS t c rep no k).seq/\(wS t c rep no k).seq<=M
 |0,_,_=>⟨by simp[wS],by simp[wS],hM⟩
 | k + 1, hk, hr => by
  obtain⟨h2,h3,h4⟩:=Gau (c:=c) (rep:=rep) (no:=no) hM k (by omega) hr;obtain⟨h5,h6,h7⟩:=Gav (c:=c) (rep:=rep) (no:=no) (k:=k) (l:=atI t.rows (k:Int)) h3 h4 (atI t.rows (k:Int)).length (Sbg _) (hr _ (at_mem (show k<t.rows.length by omega)));exact⟨h5.trans h2,h6,h7⟩
theorem Yaf {t:aT}{c:kP}{rep no:Int}{M:Int}(hM:0<=M)(hr:∀ l∈t.rows,∀ r∈l,r.attr.seq<=M) :
  (Caf t c rep no).deps.length=t.n.toNat/\1<=(Caf t c rep no).seq/\(Caf t c rep no).seq<=M+1:=by
 obtain⟨h2,h3,h4⟩:=Gau (c:=c) (rep:=rep) (no:=no) hM t.rows.length (Sbg _) hr;unfold Caf;exact⟨h2,by simp only;omega,by simp only;omega⟩
def Pb6 (r:bD)(k no:Int):Bool:=(r.state==3)&&decide (no<=atI r.attr.deps k)
def Rbk (t:aT)(k no:Int):Bool:=decide (no<=((atI t.rows k).length:Int))||t.rows.any fun l=>l.any fun r=>Pb6 r k no
def Mbk (x:Qae)(k:Int):aT:=(atI x.reps k).table
def Vax (x:Qae)(ms:List Int)(y:List Int):Bool:=ms.any fun k=>!((Da2 (Mbk x k) (atI y 0) (atI y 1)).state==3)
def Lb0 (x:Qae)(ms:List Int)(k no:Int):Bool:=ms.any fun m=>Rbk (Mbk x m) k no
def Lbb (x:Qae)(ms:List Int):List (List Int):=(sM x.reps.length).filter fun y=>Lb0 x ms (atI y 0) (atI y 1)&&Vax x ms y
theorem Raa {xs:List Int}{lo hi:Int}(h:Pag xs lo hi=true):∀ k∈xs,lo<=k/\k<=hi:=by
 intro k hk;unfold Pag at h;rw[iF]at h;obtain⟨i,hi,rfl⟩:=List.getElem_of_mem hk;have:=h i hi;simp only[Rbu]at this;rw[bH hi]at this;exact Ebh.1 this.1
theorem Abq {x:Qae}{ms:List Int}{y:List Int}:y∈Lbb x ms↔jA x.reps.length y/\Lb0 x ms (atI y 0) (atI y 1)=true/\Vax x ms y=true:=by
 unfold Lbb;rw[Tb8,yL,Rbu]
theorem Vaw (x:Qae)(ms:List Int):vN (Lbb x ms):=List.Pairwise.filter _ (Dao _)
structure Cov (n:Nat) (ms:List Int) (S:Int->Int->Prop):Prop where
 len:ms.length=n
 rng:∀ x∈ms,0<=x/\x<=6
 iff:∀ j no:Int,0<=j->j<n->1<=no->(no<=atI ms j↔S j no)
theorem Cov.congr {n:Nat}{ms:List Int}{S S':Int->Int->Prop}(h:Cov n ms S)(hs:∀ j no:Int,0<=j->j<n->1<=no->(S j no↔S' j no)):Cov n ms S' :=
 ⟨h.len,h.rng,fun j no h0 h1 h2=>(h.iff j no h0 h1 h2).trans (hs j no h0 h1 h2)⟩
structure Ibe (x:Qae) (ms:List Int) (S:List Int->Prop) (out:List (List Int)):Prop where
 nodup:out.Nodup
 iff:∀ y,y∈out↔S y/\Vax x ms y=true
 inst:∀ y∈out,jA x.reps.length y
theorem Ibe.done {x:Qae}{ms:List Int}{out:List (List Int)}(h:Ibe x ms (fun y=>jA x.reps.length y/\Lb0 x ms (atI y 0) (atI y 1)=true) out):(La4 id (out.map prL)).map toL=Lbb x ms:=by
 obtain⟨h1,h2⟩:=Ea9 (l:=out) (fun y hy=>(h.inst y hy).1) h.nodup;refine zC h1 (Vaw x ms) fun y=>?_
 rw[h2,h.iff,Abq,and_assoc]
theorem Ibe.step {x:Qae}{ms:List Int}{S:List Int->Prop}{out:List (List Int)}(h:Ibe x ms S out){y:List Int}(hy:jA x.reps.length y) :
  Ibe x ms (fun z=>S z\/z=y) (if Vax x ms y&&!(out.any fun z=>decide (y=z)) then out++[y] else out):=by
 cases ho:Vax x ms y with
 | false =>
  simp only[Ubk,Sbb,if_false];refine⟨h.nodup,fun z=>?_,h.inst⟩;rw[h.iff];constructor
  ·rintro⟨h1,h2⟩;exact⟨.inl h1,h2⟩
  ·rintro⟨h1|rfl,h2⟩
   ·exact⟨h1,h2⟩
   ·rw[ho]at h2;cases h2
 | true =>
  rw[Ube]
  cases ha:out.any fun z=>decide (y=z) with
  | true =>
   simp only[Bool.not_true,Sbb,if_false];have hm:=Cag.1 ha;refine⟨h.nodup,fun z=>?_,h.inst⟩;rw[h.iff];constructor
   ·rintro⟨h1,h2⟩;exact⟨.inl h1,h2⟩
   ·rintro⟨h1|rfl,h2⟩
    ·exact⟨h1,h2⟩
    ·exact (h.iff z).1 hm
  | false =>
   simp only[Bool.not_false,if_true];have hm:y∉out:=fun hc=>by rw[Cag.2 hc]at ha;cases ha
   refine⟨pX h.nodup hm,fun z=>?_,fun z hz=>?_⟩
   ·rw[Sbd,h.iff,Rby]
    constructor
    ·rintro (⟨h1,h2⟩|rfl)
     ·exact⟨.inl h1,h2⟩
     ·exact⟨.inr rfl,ho⟩
    ·rintro⟨h1|rfl,h2⟩
     ·exact .inl ⟨h1,h2⟩
     ·exact .inr rfl
   ·rcases Sbd.1 hz with hz|hz
    ·exact h.inst z hz
    ·rw[Rby.1 hz];exact hy
def Bef {α:Type}(l:List α)(x y:α):Prop:=∃ A B,l=A++B/\x∈A/\y∈B
theorem Bef.idx {α:Type}{l:List α}{x y:α}:Bef l x y↔∃ i j,∃ hi:i<l.length,∃ hj:j<l.length,i<j/\l[i]=x/\l[j]=y:=by
 constructor
 ·rintro⟨A,B,rfl,hx,hy⟩
  obtain⟨i,hi,rfl⟩:=Tbg.1 hx;obtain⟨j,hj,rfl⟩:=Tbg.1 hy;refine⟨i,A.length+j,by rw[Rb8];omega,by rw[Rb8];omega,by omega,?_,?_⟩
  ·rw[Vbc hi]
  ·rw[List.getElem_append_right (by omega)]
   simp
 ·rintro⟨i,j,hi,hj,tq,rfl,rfl⟩
  refine⟨l.take (i+1),l.drop (i+1),(Tbx _ _).symm,?_,?_⟩
  ·exact Tbg.2 ⟨i,by rw[Sbn];omega,by rw[List.getElem_take]⟩
  ·exact Tbg.2 ⟨j-(i+1),by rw[Sb8];omega,by rw[List.getElem_drop];congr 1;omega⟩
theorem Bef.map {α β:Type}{l:List α}{f:α->β}{x y:α}(h:Bef l x y):Bef (l.map f) (f x) (f y):=by
 obtain⟨A,B,rfl,hx,hy⟩:=h;exact⟨A.map f,B.map f,by rw[Ubg],Tbi hx,Tbi hy⟩
def Mbf (G:List (List Int))(out:List (List Int)):Prop:=∀ A C B,out=A++C::B->∀ j∈C,∀ k,Rch G j k->(∃ D∈A,k∈D)\/k∈C
theorem Mbf.step {G:List (List Int)}(hg:GOk G){s:CSt}(h:Yaq G s)(hr:s.rest≠[])(hp:Mbf G s.out):Mbf G (cO G s).out:=by
 obtain⟨h1,h2,h3,-⟩:=h.top hg hr;have hCr:atI s.rest (Saf G s:Int)∈s.rest:=at_mem h1;unfold cO;dsimp only;generalize atI s.rest (Saf G s:Int)=C0 at *;intro A C B e j hj k hk
 rcases List.eq_nil_or_concat B with hB|⟨B',b,hB⟩
 ·subst hB
  obtain⟨e1,e2⟩:=List.append_inj' e rfl;rw[Tbj]at e2;obtain⟨rfl,-⟩:=e2;subst e1;obtain⟨a,ha,he,wq⟩:=Aa6 (h.sub hCr);have wy:InB G (atI C0 0):=by rw[wq];exact ha
  have hja:=(mJ hg ha).1 (by rw[<- he];exact hj);exact (Fa2 hg wy).1 h3 k (by rw[wq];exact hja.1.trans hk)
 ·rw[List.concat_eq_append]at hB
  subst hB;have e':s.out++[C0]=(A++C::B')++[b]:=by rw[e];simp
  obtain⟨e1,-⟩:=List.append_inj' e' rfl;exact hp A C B' e1 j hj k hk
def Lbj (t:aT)(x y:List Int):Prop:=Ga4 t y x/\(¬ Ga4 t x y\/Eba t x<Eba t y)
theorem Lbj.total {t:aT}(ht:fD t=true){x y:List Int}(hx:x∈Maf t)(hy:y∈Maf t)(dk:x≠y)(h:Ga4 t x y\/Ga4 t y x):Lbj t x y\/Lbj t y x:=by
 unfold Lbj;by_cases h1:Ga4 t x y
 ·by_cases h2:Ga4 t y x
  ·rcases Int.lt_trichotomy (Eba t x) (Eba t y) with h3|h3|h3
   ·exact .inl ⟨h2,.inr h3⟩
   ·exact absurd (Ab3 ht (Fae ht hx).1 (Fae ht hy).1 h3) dk
   ·exact .inr ⟨h1,.inr h3⟩
  ·exact .inr ⟨h1,.inl h2⟩
 ·rcases h with h|h
  ·exact absurd h h1
  ·exact .inl ⟨h,.inl h1⟩
def lG (l:aR):Int×Int:=(l.rep,l.no)
def tO (ls:List aR):Prop:=ls.Pairwise fun a b=>ltQ (lG a) (lG b)=true
def qF (x:Int×Int)(ls:List aR):Nat:=(ls.takeWhile fun l=>ltQ (lG l) x).length
def mM (x:Int×Int)(ls:List aR):List aR:=ls.filter fun l=>!(lG l==x)
def Ras (x:Int×Int)(ls:List aR):Bool:=ls.any fun l=>lG l==x
def Mak (l:aR)(ls:List aR):List aR:=(mM (lG l) ls).take (qF (lG l) (mM (lG l) ls))++l::(mM (lG l) ls).drop (qF (lG l) (mM (lG l) ls))
theorem Paq (x:Int×Int):ltQ x x=false:=by rw[nI];omega
theorem Mau {x y z:Int×Int}(h:ltQ x y=true)(h2:ltQ y z=true):ltQ x z=true:=by rw[uO]at *;omega
theorem Abw {x y:Int×Int}(h:ltQ x y=true):ltQ y x=false:=by rw[uO]at h;rw[nI];omega
theorem Cac (x:Int×Int)(ls:List aR):qF x ls<=ls.length:=by
 unfold qF;exact (List.takeWhile_sublist _).length_le
theorem Cab {x:Int×Int}:∀ {ls:List aR} {k:Nat} (hk:k<qF x ls),ltQ (lG (ls[k]'(Nat.lt_of_lt_of_le hk (Cac x ls)))) x=true
 | l :: ls, k, hk => by
  unfold qF at hk;rw[Vbh]at hk;split at hk
  ·rename_i h
   cases k with
   |zero=>exact h
   | succ k =>
    rw[Sbm]at hk;exact Cab (ls:=ls) (k:=k) (by unfold qF;omega)
  ·simp at hk
theorem Gaf {x:Int×Int}:∀ {ls:List aR},tO ls->∀ {k:Nat} (hk:k<ls.length),qF x ls<=k->ltQ (lG ls[k]) x=false
 | l :: ls, hs, k, hk, hc => by
  obtain⟨h1,h2⟩:=Tbu.1 hs;unfold qF at hc;rw[Vbh]at hc;split at hc
  ·rename_i h
   cases k with
   |zero=>simp at hc
   | succ k =>
    rw[Sbm]at hc;exact Gaf h2 (by simpa using hk) (by unfold qF;omega)
  ·rename_i h
   have h':ltQ (lG l) x=false:=by simpa using h
   cases k with
   |zero=>exact h'
   | succ k =>
    have:=h1 _ (Tbq (by simpa using hk:k<ls.length));rw[List.getElem_cons_succ];rw[nI]at h' ⊢;rw[uO]at this;omega
theorem Ebv {x:Int×Int}{ls:List aR}(hs:tO ls){k:Nat}(hk:k<=ls.length)(h1:∀ j (hj:j<ls.length),j<k->ltQ (lG ls[j]) x=true)(h2:∀ j (hj:j<ls.length),k<=j->ltQ (lG ls[j]) x=false):qF x ls=k:=by
 have hc:=Cac x ls
 rcases Nat.lt_trichotomy (qF x ls) k with h|h|h
 ·have a:=h1 (qF x ls) (by omega) h
  have b:=Gaf (x:=x) hs (k:=qF x ls) (by omega) (Sbg _);rw[a]at b;cases b
 ·exact h
 ·have a:=h2 k (by omega) (Sbg _)
  have b:=Cab (x:=x) (ls:=ls) h;rw[a]at b;cases b
theorem Pav {x:Int×Int}{ls:List aR}(hs:tO ls):Ras x ls=true↔∃ h:qF x ls<ls.length,lG (ls[qF x ls]'h)=x:=by
 unfold Ras;rw[Tb7];constructor
 ·rintro⟨l,hl,e⟩
  obtain⟨k,hk,rfl⟩:=Tbg.1 hl;have e':lG ls[k]=x:=by simpa using e
  have:qF x ls=k:=by
   refine Ebv hs (by omega) (fun j hj hjk=>?_) fun j hj hjk=>?_
   ·rw[<- e'];exact Tb2.1 hs j k hj hk hjk
   ·rcases Sbh k j with h|h
    ·have:=Abw (Tb2.1 hs k j hk hj h)
     rw[<- e'];exact this
    ·obtain rfl:j=k:=by omega
     rw[e'];exact Paq x
  subst this;exact⟨hk,e'⟩
 ·rintro⟨h,e⟩
  exact⟨_,Tbq h,by simp[e]⟩
theorem Bbp {x:Int×Int}{ls:List aR}(h:Ras x ls=false):mM x ls=ls:=by
 unfold mM;rw[List.filter_eq_self];intro l hl;unfold Ras at h;rw[Tb1]at h;simpa using h l hl
theorem Bbq {x:Int×Int}{ls:List aR}(hs:tO ls)(h:Ras x ls=true):mM x ls=ls.take (qF x ls)++ls.drop (qF x ls+1):=by
 obtain⟨hk,e⟩:=(Pav hs).1 h;generalize hc:qF x ls=k at *;have gl:ls=ls.take k++ls[k]::ls.drop (k+1):=by rw[<- Tbp hk,Tbx]
 have ha:∀ l∈ls.take k,(!(lG l==x))=true:=fun l hl=>by
  obtain⟨j,hj,rfl⟩:=Tbg.1 hl;rw[Sbn]at hj;rw[List.getElem_take];have:=Cab (x:=x) (ls:=ls) (k:=j) (by omega);simp only[Sbl,beq_eq_false_iff_ne];intro e2;rw[e2,Paq]at this;cases this
 have hb:∀ l∈ls.drop (k+1),(!(lG l==x))=true:=fun l hl=>by
  obtain⟨j,hj,rfl⟩:=Tbg.1 hl;rw[Sb8]at hj;rw[List.getElem_drop];have:=Tb2.1 hs k (k+1+j) hk (by omega) (by omega);simp only[Sbl,beq_eq_false_iff_ne];intro e2;rw[e2,e,Paq]at this;cases this
 unfold mM
 conv=>lhs;rw[gl]
 rw[List.filter_append,List.filter_cons,List.filter_eq_self.2 ha,List.filter_eq_self.2 hb,e];simp
theorem Ba9 {x:Int×Int}{ls:List aR}(hs:tO ls):tO (mM x ls):=List.Pairwise.filter _ hs
theorem Gae {x:Int×Int}{ls:List aR}{l:aR}(h:l∈mM x ls):l∈ls/\lG l≠x:=by
 unfold mM at h;rw[Tb8]at h;exact⟨h.1,by simpa using h.2⟩
theorem Xan (x:Int×Int)(ls:List aR):Ras x (mM x ls)=false:=by
 unfold Ras;rw[Tb1];intro l hl;simpa using (Gae hl).2
theorem Abp {l l':aR}{ls:List aR}(h:l'∈Mak l ls):l'=l\/l'∈ls:=by
 unfold Mak at h
 rcases Sbd.1 h with h|h
 ·exact .inr (Gae (Ubh h)).1
 ·rcases Rb4.1 h with h|h
  ·exact .inl h
  ·exact .inr (Gae (Tbn h)).1
theorem Van {l:aR}{ls:List aR}(hs:tO ls):tO (Mak l ls):=by
 have hd:=Ba9 (x:=lG l) hs;have hn:=Xan (lG l) ls;unfold Mak;generalize mM (lG l) ls=ds at *;have hc:=Cac (lG l) ds
 have nk:∀ a∈ds.take (qF (lG l) ds),ltQ (lG a) (lG l)=true:=fun a ha=>by
  obtain⟨j,hj,rfl⟩:=Tbg.1 ha;rw[Sbn]at hj;rw[List.getElem_take];exact Cab (by omega)
 have rv:∀ a∈ds.drop (qF (lG l) ds),ltQ (lG l) (lG a)=true:=fun a ha=>by
  obtain⟨j,hj,rfl⟩:=Tbg.1 ha;rw[Sb8]at hj;rw[List.getElem_drop];have h1:=Gaf (x:=lG l) hd (k:=qF (lG l) ds+j) (by omega) (by omega)
  have h2:lG ds[qF (lG l) ds+j]≠lG l:=by
   unfold Ras at hn;rw[Tb1]at hn;simpa using hn _ (Tbq (by omega:qF (lG l) ds+j<ds.length))
  rw[uO];rw[nI]at h1
  rcases h1 with h|⟨h,h'⟩
  ·exact .inl h
  ·refine .inr ⟨h.symm,?_⟩
   rcases Int.lt_or_eq_of_le h' with h3|h3
   ·exact h3
   ·exact absurd (Prod.ext h h3.symm) h2
 unfold tO;rw[List.pairwise_append];refine⟨hd.sublist (List.take_sublist _ _),Tbu.2 ⟨rv,hd.sublist (List.drop_sublist _ _)⟩,fun a ha b hb=>?_⟩
 rcases Rb4.1 hb with rfl|hb
 ·exact nk a ha
 ·exact Mau (nk a ha) (rv b hb)
theorem Ca3 {p l:aR}:Ma4 p l=false↔ltQ (lG p) (lG l)=true:=by
 unfold Ma4;rw[uO];simp only[Bool.or_eq_false_iff,decide_eq_false_iff_not,Bool.and_eq_false_iff,beq_eq_false_iff_ne,lG];omega
theorem nC {r:yN}:mF r=true↔fD r.table=true/\inR r.me 0 (r.table.n-1)=true/\(∀ l∈r.leads,lY r.table.n r.me l=true)/\tO r.leads:=by
 unfold mF;rw[Rbu,Rbu,iF,and_assoc];refine and_congr_right fun _=>and_congr_right fun _=>?_
 constructor
 ·intro h
  have jn:∀ i (hi:i<r.leads.length),lY r.table.n r.me r.leads[i]=true/\∀ (h0:0<i),ltQ (lG (r.leads[i-1]'(by omega))) (lG r.leads[i])=true:=fun i hi=>by
   have:=h i hi;unfold Faq at this;rw[Rbu,bH hi]at this;refine⟨this.1,fun h0=>?_⟩;have h2:=this.2;rw[show ((i:Int)-1)=((i-1:Nat):Int) by omega,bH (show i-1<r.leads.length by omega),decide_eq_true (show (0:Int)<(i:Int) by omega),Ube,Sbl]at h2;exact Ca3.1 h2
  refine⟨fun l hl=>?_,Tb2.2 ?_⟩
  ·obtain⟨i,hi,rfl⟩:=Tbg.1 hl
   exact (jn i hi).1
  ·intro i j hi hj tq
   induction j with
   |zero=>omega
   | succ j ih =>
    have h2:=(jn (j+1) hj).2 (by omega);simp only[Nat.add_sub_cancel]at h2
    rcases Sbh i j with h3|h3
    ·exact Mau (ih (by omega) h3) h2
    ·obtain rfl:i=j:=by omega
     exact h2
 ·rintro⟨h1,h2⟩ i hi
  unfold Faq;rw[Rbu,bH hi];refine⟨h1 _ (Tbq hi),?_⟩;by_cases h0:0<i
  ·rw[show ((i:Int)-1)=((i-1:Nat):Int) by omega,bH (show i-1<r.leads.length by omega),Ca3.2 (Tb2.1 h2 (i-1) i (by omega) hi (by omega))]
   simp
  ·rw[decide_eq_false (by omega)]
   rfl
def Aba (n me:Int)(m:iB)(dst:Int):iB:=⟨m.kind,me,dst,m.rep,m.no,m.ballot,m.vote,m.state,m.cmd,if (m.attr.deps.length:Int)==0 then none0 n else m.attr⟩
def Ga6 (n me:Int)(m:iB)(k:Nat):List iB:=(Vbk k).flatMap fun i:Nat=>if (i:Int)==me then [] else [Aba n me m (i:Int)]
theorem Ga0 (n me:Int)(m:iB)(k:Nat):Ga6 n me m (k+1)=Ga6 n me m k++if (k:Int)==me then [] else [Aba n me m k]:=by
 simp[Ga6,List.range_succ,List.flatMap_append]
theorem Eai (n me:Int)(m:iB):∀ k,(Ga6 n me m k).length<=k
 |0=>by simp[Ga6]
 | k + 1 => by
  have:=Eai n me m k;rw[Ga0,Rb8];split<;>simp<;>omega
theorem Ebx (l:aR)(a b:Int):decide (Bby [l.rep,l.no] [a,b]<0)=ltQ (lG l) (a,b):=by
 unfold Bby Ka4 ltQ lG;by_cases h1:l.rep<a
 ·simp[h1]
 ·rw[if_neg h1]
  by_cases h2:a<l.rep
  ·have h3:¬ l.rep=a:=by omega
   simp[h1,h2,h3]
  ·rw[if_neg h2]
   have:l.rep=a:=by omega
   unfold Ka4;by_cases h3:l.no<b
   ·simp[h1,this,h3]
   ·rw[if_neg h3]
    by_cases h4:b<l.no
    ·simp[h1,this,h3,h4]
    ·rw[if_neg h4]
     simp[Ka4,h1,this,h3]
theorem Eby (l:aR)(a b:Int):(Bby [l.rep,l.no] [a,b]==0)=(lG l==(a,b)):=by
 unfold Bby Ka4 lG;by_cases h1:l.rep<a
 ·have:¬ l.rep=a:=by omega
  simp[h1,this]
 ·rw[if_neg h1]
  by_cases h2:a<l.rep
  ·have:¬ l.rep=a:=by omega
   simp[h2,this]
  ·rw[if_neg h2]
   have:l.rep=a:=by omega
   unfold Ka4;by_cases h3:l.no<b
   ·have h5:¬ l.no=b:=by omega
    simp[h3,h5]
   ·rw[if_neg h3]
    by_cases h4:b<l.no
    ·have h5:¬ l.no=b:=by omega
     simp[h4,h5]
    ·have h5:l.no=b:=by omega
     rw[if_neg h4];simp[Ka4,this,h5]
theorem Fby {a:Int}(h0:0<=a)(h1:a<=1000000000000):(aN.conv .u64).run [i64 a]=some [u64 a]/\(aN.bin .shr).run [u64 a,.int .u64 1]=some [u64 (a / 2)]/\(aN.conv .i64).run [u64 (a / 2)]=some [i64 (a / 2)]:=by
 refine⟨?_,?_,?_⟩
 ·rw[u_conv,show IntKind.u64.wrap a=a by rw[IntKind.wrap_u64];omega]
 ·show some [u64 (a.fdiv (2 ^ 1))]=_
  rw[Int.fdiv_eq_ediv_of_nonneg _ (by omega)];rfl
 ·show some [D.int .i64 (IntKind.i64.wrap (a / 2))]=_
  rw[show IntKind.i64.wrap (a / 2)=a / 2 by rw[IntKind.wrap_i64];omega]
theorem Xar {ls:List aR}{k:Nat}(h:k<ls.length)(hl:ls.length<=10000000000):Cb0 16 [rL ls,i64 (k:Int),i64 ((k:Int)+1)]=some [rL (ls.take k++ls.drop (k+1))]:=by
 show Cb0 16 [.rows 16 (ls.map Enc.enc),.int .i64 (k:Int),.int .i64 ((k:Int)+1)]=some [.rows 16 ((ls.take k++ls.drop (k+1)).map Enc.enc)]
 simp only[Cb0];rw[if_pos ⟨trivial,by omega,by omega,by rw[Sbr];omega,by rw[Sbr];omega,by rw[Sbr];omega⟩];rw[show ((k:Int)).toNat=k by omega,show ((k:Int)+1).toNat=k+1 by omega,Ubg,List.map_take,List.map_drop]
theorem Wav {ls:List aR}{k:Nat}(l:aR)(h:k<=ls.length)(hl:ls.length<=10000000000):Cbt 16 [rL ls,i64 (k:Int),rL [l]]=some [rL (ls.take k++l::ls.drop k)]:=by
 show Cbt 16 [.rows 16 (ls.map Enc.enc),.int .i64 (k:Int),.rows 16 [Enc.enc l]]=some [.rows 16 ((ls.take k++l::ls.drop k).map Enc.enc)]
 simp only[Cbt];rw[if_pos ⟨trivial,trivial,by omega,by rw[Sbr];omega,by rw[Sbr];omega⟩];rw[show ((k:Int)).toNat=k by omega,Ubg,List.map_cons,List.map_take,List.map_drop]
theorem Aa2 (x:Int×Int)(ls:List aR):(mM x ls).length<=ls.length:=List.length_filter_le _ _
theorem Rad (l:aR)(ls:List aR):(Mak l ls).length<=ls.length+1:=by
 have:=Aa2 (lG l) ls;unfold Mak;rw[Rb8,Sbm,Sbn,Sb8];omega
theorem Vaj {me:Int}{t:aT}{ls:List aR}{l:aR}(h:mF ⟨me,t,ls⟩=true)(hl:lY t.n me l=true):mF ⟨me,t,Mak l ls⟩=true:=by
 rw[nC]at h ⊢;exact⟨h.1,h.2.1,fun x hx=>(Abp hx).elim (fun e=>e▸hl) (h.2.2.1 x),Van h.2.2.2⟩
theorem Vai {me:Int}{t:aT}{ls:List aR}{rep no:Int}{r:bD}(h:mF ⟨me,t,ls⟩=true)(hi:inst t.n rep no=true)(hr:rowOk t.n r=true):mF ⟨me,Cam t rep no r,ls⟩=true:=by
 rw[nC]at h ⊢;exact⟨Uap h.1 hi hr,h.2⟩
theorem pV {r:yN}(h:mF r=true):fD r.table=true:=(nC.1 h).1
theorem Iaf {r:yN}(h:mF r=true):tO r.leads:=(nC.1 h).2.2.2
theorem Eac {r:yN}(h:mF r=true):0<=r.me/\r.me<=r.table.n-1:=by
 have:=(nC.1 h).2.1;simpa[inR] using this
theorem Wag {n me:Int}{l:aR}(h:lY n me l=true):inst n l.rep l.no=true/\inR l.ballot 0 9999=true/\Pag l.who 0 (n-1)=true/\Ba4 l.who me=true/\gD n l.first=true/\gD n l.attr=true:=by
 unfold lY at h;simp only[Rbu]at h;exact⟨h.1.1.1.1.1.1,h.1.1.1.1.1.2,h.1.1.1.1.2,h.1.1.1.2,h.1.1.2,h.1.2⟩
theorem Eag {n rep no:Int}(h:inst n rep no=true):1<=no/\no<=1000:=by have:=jM h;omega
theorem Taj {n me rep no ballot:Int}{c:kP}{a:cZ}{ph:Int}{same:Bool}(hi:inst n rep no=true)(hb:inR ballot 0 9999=true)(hm:0<=me/\me<=n-1)(ha:gD n a=true)(hc:lV c=true)
  (hp:(ph=1)\/(ph=2/\same=false)):lY n me ⟨rep,no,ballot,ph,c,a,a,same,[me],[]⟩=true:=by
 have h1:Pag [me] 0 (n-1)=true:=by
  unfold Pag;rw[iF];intro i hi;obtain rfl:i=0:=by simpa using hi
  simp[inR,Jay,atI,hm.1,hm.2]
 have h2:Ba4 [me] me=true:=by simp[Ba4]
 unfold lY
 rcases hp with rfl|⟨rfl,rfl⟩<;>simp[hi,hb,h1,h2,ha,hc]
theorem Vac {n ballot:Int}{st:Int}{c:kP}{a:cZ}(hb:inR ballot 0 9999=true)(hc:lV c=true)(ha:gD n a=true)(hs:st=1\/st=2):rowOk n ⟨ballot,ballot,st,c,a⟩=true:=by
 have:0<=ballot/\ballot<=9999:=by simpa[inR] using hb
 unfold rowOk
 rcases hs with rfl|rfl<;>simp[hb,hc,ha,inR,this.1,this.2]
theorem Dbz {xs:List Int}{lo hi:Int}(h:Pag xs lo hi=true):∀ i (hi:i<xs.length),lo+i<=xs[i]:=by
 have hm:=Raa h;unfold Pag at h;rw[iF]at h;intro i
 induction i with
 | zero =>
  intro kq;have:=hm _ (Tbq kq);omega
 | succ i ih =>
  intro yc;have h1:=h (i+1) yc;rw[Rbu]at h1;have h2:=h1.2;unfold Jay at h2;rw[bH yc,show ((i+1:Nat):Int)-1=((i:Nat):Int) by omega,bH (show i<xs.length by omega),decide_eq_true (show 0<i+1 by omega),Ube,Sbl,decide_eq_false_iff_not]at h2;have:=ih (by omega);omega
theorem Abj {xs:List Int}{n:Int}(h:Pag xs 0 (n-1)=true)(h0:0<xs.length):(xs.length:Int)<=n:=by
 have h1:=Dbz h (xs.length-1) (by omega);have h2:=Raa h _ (Tbq (show xs.length-1<xs.length by omega));omega
theorem Ma3 {n me:Int}{l:aR}(hg:eP n=true)(h:lY n me l=true):aL l<=100:=by
 have hn:=bG hg;obtain⟨h1,h2,h3,h4,h5,h6⟩:=Wag h;have a1:=(Ia5 h5).2.2.1;have a2:=(Ia5 h6).2.2.1
 have hw:(l.who.length:Int)<=n:=by
  rcases Nat.eq_zero_or_pos l.who.length with e|e
  ·omega
  ·exact Abj h3 e
 have hs:szL aH l.seen<=60:=by
  unfold lY at h;simp only[Rbu]at h;have h7:=h.2
  have hz:(l.seen.length:Int)=0->szL aH l.seen<=60:=fun e=>by
   have:l.seen=[]:=List.length_eq_zero_iff.1 (by omega);rw[this];exact Nat.zero_le _
  split at h7
  ·rw[Rbu,beq_iff_eq]at h7;exact hz h7.2
  ·split at h7
   ·simp only[Rbu,beq_iff_eq]at h7;exact hz h7.1.1.2
   ·split at h7
    ·simp only[Rbu,beq_iff_eq,Sbp]at h7
     have hr:∀ r∈l.seen,aH r<=5:=fun r hr=>by
      have:=Bas (h7.2 r hr).1 hg;rw[Uax];omega
     have:=Haz (f:=aH) (k:=5) hr;have hl:(l.seen.length:Int)=l.who.length:=h7.1.2;omega
    ·cases h7
 rw[tV];omega
theorem Qas {t:aT}(h:fD t=true):szL (szL aH) t.rows<=2000:=by
 have hg:=bZ h;have hn:=bG hg;have hl:=iO h
 have:=Haz (f:=szL aH) (k:=100) (xs:=t.rows) fun l hl=>by
  obtain⟨h1,h2⟩:=iG h hl
  have:=Haz (f:=aH) (k:=5) (xs:=l) fun r hr=>by
   have:=Bas (h2 r hr) hg;rw[Uax];omega
  omega
 omega
theorem Abm {r:yN}(h:mF r=true):fE r<=2000+101*r.leads.length:=by
 have ht:=pV h;have:=Qas ht;have h3:=(nC.1 h).2.2.1;have:=Haz (f:=aL) (k:=100) (xs:=r.leads) fun l hl=>Ma3 (bZ ht) (h3 l hl)
 rw[Da4];omega
theorem Abn {r:yN}(h:mF r=true)(hl:r.leads.length<=1000000000):mZ r.table.rows/\nA r.leads:=by
 have ht:=pV h;have hg:=bZ ht;have h3:=(nC.1 h).2.2.1;exact⟨Qa3 (Sb1 (Qas ht) (by omega)),by omega,fun l hl=>La6 (Sb1 (Ma3 hg (h3 l hl)) (by omega))⟩
def qH (ballot:Int)(c:kP)(a:cZ):bD:=⟨ballot,ballot,1,c,a⟩
def pF (me rep no ballot:Int)(c:kP)(a:cZ):aR:=⟨rep,no,ballot,1,c,a,a,true,[me],[]⟩
def Dan (rep no ballot:Int)(c:kP)(a:cZ):iB:=⟨1,0,0,rep,no,ballot,0,0,c,a⟩
theorem Cb6 {me rep no ballot:Int}{t:aT}{ls:List aR}{c:kP}{a:cZ}(h:mF ⟨me,t,ls⟩=true)(hi:inst t.n rep no=true)(hb:inR ballot 0 9999=true)(ha:gD t.n a=true)(hc:lV c=true) :
  mF ⟨me,Cam t rep no (qH ballot c a),Mak (pF me rep no ballot c a) ls⟩=true/\rowOk t.n (qH ballot c a)=true:=by
 have hr:rowOk t.n (qH ballot c a)=true:=Vac hb hc ha (.inl rfl);exact⟨Vaj (Vai h hi hr) (Taj hi hb (Eac h) ha hc (.inl rfl)),hr⟩
def Ob9:yN:=⟨0,⟨0,[]⟩,[]⟩
abbrev Lbi:=yN×List iB×Bool
def Uak:Lbi:=(Ob9,[],false)
def Eb6 (a:Lbi):Prop:=(mF a.1=true\/a.1=Ob9)/\a.1.leads.length<=3000000/\a.2.1.length<=10/\∀ m∈a.2.1,m.attr.deps.length<=10
theorem Yai {a:Lbi}(h:Eb6 a):szL (szL aH) a.1.table.rows<=1099511627776/\szL aL a.1.leads<=1099511627776/\ctL dC a.1.leads<=1125899906842624/\ctL (ctL aY) a.1.table.rows<=1125899906842624/\bJ a.1.table<=1099511627776/\fE a.1<=1099511627776/\szL gH a.2.1<=1099511627776/\ctL jQ a.2.1<=1125899906842624:=by
 obtain⟨h1,h2,h3,h4⟩:=h;have m1:szL gH a.2.1<=a.2.1.length*(10+1):=Haz fun m hm=>by rw[Da5];exact h4 m hm
 have m2:=oN (c:=jQ) (f:=gH) (m:=16) (by omega) Bbw a.2.1;have m3:szL gH a.2.1<=110:=Sb1 m1 (Nat.mul_le_mul_right 11 h3)
 rcases h1 with h1|h1
 ·have a1:=Abm h1
  have a2:=Da4 a.1;have a3:=oN (c:=dC) (f:=aL) (m:=16) (by omega) Na3 a.1.leads;have a4:=oN (c:=(ctL aY)) (f:=(szL aH)) (m:=16) (by omega) (fun xs=>Sb1 (oN (c:=aY) (f:=aH) (m:=16) (by omega) Kax xs) (Nat.le_add_left _ _)) a.1.table.rows;have a5:=Hay a.1.table;omega
 ·rw[h1]
  refine⟨?_,?_,?_,?_,?_,?_,by omega,by omega⟩<;>decide
theorem Eb7:Eb6 Uak:=⟨.inr rfl,by decide,by decide,fun m hm=>by cases hm⟩
theorem Uad {n me:Int}{m:iB}(hg:eP n=true)(h:m.attr.deps.length<=10)(k:Nat):∀ x∈Ga6 n me m k,x.attr.deps.length<=10:=by
 intro x hx;unfold Ga6 at hx;rw[Vbm]at hx;obtain⟨i,-,hx⟩:=hx;split at hx
 ·cases hx
 ·rw[Rby]at hx
  subst hx;unfold Aba;simp only;split
  ·have:=bG hg
   simp only[none0,Tbz];omega
  ·exact h
def Bak (r:yN):Int:=((atI r.table.rows r.me).length:Int)+1
def sbA (r:yN)(c:kP):cZ:=Caf r.table c r.me (Bak r)
def sbB (r:yN)(c:kP):Bool:=mF r&&lV c&&!(c.kind==0)&&decide (((atI r.table.rows r.me).length:Int)<6)&&decide ((sbA r c).seq<=999)
def bK (r:yN)(c:kP):Lbi :=
 if sbB r c then (⟨r.me,Cam r.table r.me (Bak r) (qH 0 c (sbA r c)),Mak (pF r.me r.me (Bak r) 0 c (sbA r c)) r.leads⟩,Ga6 r.table.n r.me (Dan r.me (Bak r) 0 c (sbA r c)) r.table.n.toNat,true) else Uak
theorem Abc {p:Int->Prop}{xs:List Int}{k v:Int}(h:∀ x∈xs,p x)(hv:p v):∀ x∈dI xs k v,p x:=fun x hx=>(Ja9 hx).elim (h x) fun e=>e▸hv
theorem Oaf {c:kP}{rep no:Int}{k:Nat}{l:List bD}{a:cZ}(hl:l.length<=6)(h:∀ x∈a.deps,0<=x/\x<=6):∀ i,i<=l.length->∀ x∈(sK c rep no k l a i).deps,0<=x/\x<=6
 |0,_=>h
 | i + 1, hi => by
  have ih:=Oaf (c:=c) (rep:=rep) (no:=no) (k:=k) hl h i (by omega);unfold sK;split
  ·exact ih
  ·exact Abc (p:=fun x=>0<=x/\x<=6) ih ⟨by omega,by omega⟩
theorem Oae {t:aT}{c:kP}{rep no:Int}(hr:∀ l∈t.rows,l.length<=6):∀ k,k<=t.rows.length->∀ x∈(wS t c rep no k).deps,0<=x/\x<=6
 | 0, _ => by
  intro x hx
  have:x=0:=by
   unfold wS at hx;simp at hx;exact hx.2
  omega
 | k + 1, hk => by
  unfold wS;exact Oaf (hr _ (at_mem (show k<t.rows.length by omega))) (Oae hr k (by omega)) _ (Sbg _)
theorem Gat {t:aT}{c:kP}{rep no:Int}(ht:fD t=true):(Caf t c rep no).deps.length=t.n.toNat/\1<=(Caf t c rep no).seq/\(Caf t c rep no).seq<=1000/\gD t.n (Caf t c rep no)=decide ((Caf t c rep no).seq<=999):=by
 have hg:=bG (bZ ht);obtain⟨h1,h2,h3⟩:=Yaf (t:=t) (c:=c) (rep:=rep) (no:=no) (M:=999) (by omega) fun l hl r hr=>(Fac ((iG ht hl).2 r hr)).2
 have hd:∀ x∈(Caf t c rep no).deps,0<=x/\x<=6:=Oae (fun l hl=>(iG ht hl).1) _ (Sbg _);refine⟨h1,h2,by omega,?_⟩;unfold gD;have e1:((Caf t c rep no).deps.length:Int)=t.n:=by omega
 have e2:((Caf t c rep no).deps.all fun x=>inR x 0 6)=true:=by
  rw[Sbp];intro x hx;have:=hd x hx;simp[inR,this.1,this.2]
 rw[e2,e1,beq_self_eq_true,Ubm,Ubm];unfold inR;rw[decide_eq_true (show 0<=(Caf t c rep no).seq by omega),Ube]
theorem Yae {t:aT}{c c':kP}{rep no b:Int}(ht:fD t=true)(hb:inR b 0 9999=true)(hc:lV c'=true):rowOk t.n (qH b c' (Caf t c rep no))=decide ((Caf t c rep no).seq<=999):=by
 have:=(Gat (c:=c) (rep:=rep) (no:=no) ht).2.2.2;have jw:0<=b/\b<=9999:=by simpa[inR] using hb
 unfold rowOk qH;simp[hb,hc,this,inR,jw.1,jw.2]
theorem Faa {r:yN}(h:mF r=true)(h2:((atI r.table.rows r.me).length:Int)<6):inst r.table.n r.me (Bak r)=true/\InB r.table.rows r.me:=by
 have hm:=Eac h;have ht:=pV h;have hl:=iO ht;unfold Bak;refine⟨by simp[inst,inR];omega,by unfold InB;omega⟩
theorem Oa0 (r:yN)(c:kP)(hl:r.leads.length<=2000000):Eb6 (bK r c):=by
 unfold bK;split
 ·rename_i c0
  unfold sbB at c0;simp only[Rbu,decide_eq_true_eq]at c0;obtain⟨⟨⟨⟨c1,c2⟩,c3⟩,c4⟩,c5⟩:=c0;have ht:=pV c1;have hg:=bZ ht;have hn:=bG hg;obtain⟨a1,a2,a3,a4⟩:=Gat (c:=c) (rep:=r.me) (no:=Bak r) ht;have a5:gD r.table.n (sbA r c)=true:=by rw[<- decide_eq_true c5];exact a4
  have ho:=Cb6 (ls:=r.leads) (me:=r.me) (ballot:=0) c1 (Faa c1 c4).1 (by decide) a5 c2;have pj:=Rad (pF r.me r.me (Bak r) 0 c (sbA r c)) r.leads;have hal:=Eai r.table.n r.me (Dan r.me (Bak r) 0 c (sbA r c)) r.table.n.toNat;refine⟨.inl ho.1,by simp only;omega,by simp only;omega,Uad hg ?_ _⟩;show (Caf r.table c r.me (Bak r)).deps.length<=10
  omega
 ·exact Eb7
theorem Bae {c:kP}{rep no:Int}{k:Nat}{l:List bD}{a:cZ}:∀ i,(sK c rep no k l a i).deps.length=a.deps.length
 |0=>rfl
 | i + 1 => by
  unfold sK;split
  ·exact Bae i
  ·simp only[rC];exact Bae i
theorem Yag {c:kP}{rep no:Int}{k:Nat}{l:List bD}{a:cZ}(hb:InB a.deps (k:Int))(h0:atI a.deps (k:Int)<=0):∀ i:Nat,atI (sK c rep no k l a i).deps (k:Int)<=i
 |0=>by simpa[sK] using h0
 | i + 1 => by
  have ih:=Yag (c:=c) (rep:=rep) (no:=no) (l:=l) hb h0 i;unfold sK;split
  ·omega
  ·simp only
   have hl:InB (sK c rep no k l a i).deps (k:Int):=by unfold InB at hb ⊢;rw[Bae];exact hb
   rw[uB hl];omega
theorem Gaw {c:kP}{rep no:Int}{k j:Nat}{l:List bD}{a:cZ}(hj:j≠k):∀ i:Nat,atI (sK c rep no k l a i).deps (j:Int)=atI a.deps (j:Int)
 |0=>rfl
 | i + 1 => by
  unfold sK;split
  ·exact Gaw hj i
  ·simp only
   rw[pO (by omega) (by omega) (by omega)];exact Gaw hj i
theorem Oad {t:aT}{c:kP}{rep no:Int}:∀ k:Nat,∀ j:Nat,k<=j->j<t.n.toNat->atI (wS t c rep no k).deps (j:Int)=0
 | 0, j, _, hj => by
  unfold wS;simp only;rw[bH (by rw[Tbz];exact hj),List.getElem_replicate]
 | k + 1, j, hk, hj => by
  unfold wS;rw[Gaw (by omega)];exact Oad k j (by omega) hj
end Go.Proofs.YtgpamlpecmldfaaGreat.Rf
