import Derived.Test.YtgpamlpecmldfaaGreatRf8
import Derived.Lib.ItoaNum
set_option linter.all false
open Bool renaming and_eq_true → Qb6, false_eq_true → Rbk, not_eq_true' → Rb0, true_and → Sbk, or_eq_true → Sbv, false_and → Sb4, eq_iff_iff → Ubs
open List renaming getElem?_eq_some_iff → Qb8, mem_append_left → Qb9, mem_singleton → Rbb, mem_append_right → Rbc, append_assoc → Rbd, mem_cons → Rbg, length_append → Rbh, getD_eq_getElem?_getD → Rbi, mem_cons_of_mem → Rbl, mem_append → Rbq, mem_cons_self → Rbr, replicate → Rbs, length_take → Rbv, length_cons → Rbw, length_map → Rb4, all_eq_true → Rb6, length_drop → Sbj, nil_append → Sbm, mem_map → Sbp, mem_iff_getElem? → Sbt, length_replicate → Sbu, mem_of_mem_drop → Sbx, mem_iff_getElem → Sby, mem_map_of_mem → Sb1, getElem_mem → Sb7, drop_eq_getElem_cons → Sb8, pairwise_cons → Tbc, any_eq_false → Tbe, take_append_drop → Tbh, pairwise_iff_getElem → Tbk, mem_filter → Tbr, foldl_cons → Tbv, any_eq_true → Tbx, map_append → Tb3, mem_of_mem_take → Tb4, findIdx?_eq_some_iff_getElem → Tb9, mem_range → Ubj, getElem_append_left → Ubu, range → Uby, mem_flatMap → Ubz
open List.cons renaming injEq → Sbz
open Nat renaming le_refl → Rbt, lt_or_ge → Rbu, le_trans → Rbz
namespace Go.Proofs.YtgpamlpecmldfaaGreat.Rf
theorem Na5 (ds:List D)(h:WTs [.int .i64] ds):∃ x:Int,ds=Enc.enc x/\True:=by
 simp only[WTs]at h;obtain⟨d,r,rfl,w,rfl⟩:=h;obtain⟨x,rfl,-,-⟩:=jC w;exact⟨x,rfl,trivial⟩
def Iay (x:wW):Nat:=1+1+1+1+1
theorem Na6 (x:wW):Iay x=5:=by
 unfold Iay
 try omega
def aI (x:bY):Nat:=szL (fun _=>0) x.deps
def uU (x:bY):Prop:=(x.deps.length<=140737488351232)
def zX (x:bY):Nat:=1+ctL (fun _=>1) x.deps
theorem Iaw (x:bY):zX x=1+ctL (fun _=>1) x.deps:=by
 unfold zX
 try omega
theorem Had (x:bY):aI x=x.deps.length:=by
 unfold aI;simp only[iO]
 try omega
def aG (x:aZ):Nat:=aI x.attr
def lW (x:aZ):Prop:=(uU x.attr)
def aL (x:aZ):Nat:=1+1+1+Iay x.cmd+zX x.attr
def dX (x:aZ)(k:Int):aZ:=⟨(k),(k+1),(k+1+1),⟨(k+1+1+1),(k+1+1+1+1),(k+1+1+1+1+1),(k+1+1+1+1+1+1),(k+1+1+1+1+1+1+1)⟩,⟨(k+1+1+1+1+1+1+1+1),(mkL (fun _=>1) (fun _ k=>k) x.attr.deps (k+1+1+1+1+1+1+1+1+1))⟩⟩
theorem pX (x:aZ):aL x=9+ctL (fun _=>1) x.attr.deps:=by
 unfold aL;simp only[Na6];simp only[Iaw]
 try omega
theorem Bav (x:aZ):aG x=x.attr.deps.length:=by
 unfold aG;simp only[iO,Had]
 try omega
theorem Gax (x:aZ):aL x<=16+16*aG x:=by
 have h0:=oN (c:=(fun _=>1)) (f:=(fun _=>0)) (m:=16) (by omega) (fun _=>by simp) x.attr.deps;rw[pX,Bav]
 try simp only[iO]at *
 omega
theorem Uav (ds:List D)(h:WTs [.int .i64,.int .i64,.int .i64,.int .i64,.int .i64,.int .i64,.int .i64,.int .i64,.int .i64,.sl 8 [.int .i64]] ds):∃ x:aZ,ds=Enc.enc x/\lW x:=by
 simp only[WTs]at h;obtain⟨d0,r0,rfl,w0,d1,r1,rfl,w1,d2,r2,rfl,w2,d3,r3,rfl,w3,d4,r4,rfl,w4,d5,r5,rfl,w5,d6,r6,rfl,w6,d7,r7,rfl,w7,d8,r8,rfl,w8,d9,r9,rfl,w9,rfl⟩:=h;obtain⟨x0,rfl,-,-⟩:=jC w0;obtain⟨x1,rfl,-,-⟩:=jC w1;obtain⟨x2,rfl,-,-⟩:=jC w2;obtain⟨x3,rfl,-,-⟩:=jC w3;obtain⟨x4,rfl,-,-⟩:=jC w4;obtain⟨x5,rfl,-,-⟩:=jC w5;obtain⟨x6,rfl,-,-⟩:=jC w6;obtain⟨x7,rfl,-,-⟩:=jC w7;obtain⟨x8,rfl,-,-⟩:=jC w8;obtain⟨x9,rfl,l9,p9⟩:=Rah (α:=Int) (P:=fun _=>True) rfl Na5 w9;exact⟨⟨x0,x1,x2,⟨x3,x4,x5,x6,x7⟩,⟨x8,x9⟩⟩,rfl,oI l9 (by decide)⟩
theorem Abv (ds:List D)(h:WTs [.sl 96 [.int .i64,.int .i64,.int .i64,.int .i64,.int .i64,.int .i64,.int .i64,.int .i64,.int .i64,.sl 8 [.int .i64]]] ds):∃ x:(List aZ),ds=Enc.enc x/\x.length<=140737488351232/\∀ y0∈x,lW y0:=by
 simp only[WTs]at h;obtain⟨d,r,rfl,w,rfl⟩:=h;obtain⟨x,rfl,l,p⟩:=Rah (α:=aZ) (P:=fun y=>lW y) rfl Uav w;exact⟨x,rfl,⟨oI l (by decide),p⟩⟩
def aX (x:aY):Nat:=szL (szL aG) x.rows
def wX (x:aY):Prop:=(x.rows.length<=140737488351232/\∀ y0∈x.rows,y0.length<=140737488351232/\∀ y1∈y0,lW y1)
theorem Jaz (x:aY):aX x=szL (szL aG) x.rows:=by
 unfold aX;simp only[iO]
 try omega
def aJ (x:aQ):Nat:=aI x.first+aI x.attr+szL (fun _=>0) x.who+szL aG x.seen
def pM (x:aQ):Prop:=(uU x.first)/\(uU x.attr)/\(x.who.length<=140737488351232)/\(x.seen.length<=140737488351232/\∀ y0∈x.seen,lW y0)
def bJ (x:aQ):Nat:=1+1+1+1+Iay x.cmd+zX x.first+zX x.attr+1+ctL (fun _=>1) x.who+ctL aL x.seen
def iP (x:aQ)(k:Int):aQ:=⟨(k),(k+1),(k+1+1),(k+1+1+1),⟨(k+1+1+1+1),(k+1+1+1+1+1),(k+1+1+1+1+1+1),(k+1+1+1+1+1+1+1),(k+1+1+1+1+1+1+1+1)⟩,⟨(k+1+1+1+1+1+1+1+1+1),(mkL (fun _=>1) (fun _ k=>k) x.first.deps (k+1+1+1+1+1+1+1+1+1+1))⟩,⟨(k+1+1+1+1+1+1+1+1+1+1+(ctL (fun _=>1) x.first.deps:Nat)),(mkL (fun _=>1) (fun _ k=>k) x.attr.deps (k+1+1+1+1+1+1+1+1+1+1+(ctL (fun _=>1) x.first.deps:Nat)+1))⟩,((k+1+1+1+1+1+1+1+1+1+1+(ctL (fun _=>1) x.first.deps:Nat)+1+(ctL (fun _=>1) x.attr.deps:Nat)) % 3==0),(mkL (fun _=>1) (fun _ k=>k) x.who (k+1+1+1+1+1+1+1+1+1+1+(ctL (fun _=>1) x.first.deps:Nat)+1+(ctL (fun _=>1) x.attr.deps:Nat)+1)),(mkL aL dX x.seen (k+1+1+1+1+1+1+1+1+1+1+(ctL (fun _=>1) x.first.deps:Nat)+1+(ctL (fun _=>1) x.attr.deps:Nat)+1+(ctL (fun _=>1) x.who:Nat)))⟩
theorem nE (x:aQ):bJ x=12+ctL (fun _=>1) x.first.deps+ctL (fun _=>1) x.attr.deps+ctL (fun _=>1) x.who+ctL aL x.seen:=by
 unfold bJ;simp only[Na6];simp only[Iaw]
 try omega
theorem qM (x:aQ):aJ x=x.first.deps.length+x.attr.deps.length+x.who.length+szL aG x.seen:=by
 unfold aJ;simp only[iO,Had]
 try omega
theorem Iax (x:aQ):bJ x<=16+16*aJ x:=by
 have h0:=oN (c:=(fun _=>1)) (f:=(fun _=>0)) (m:=16) (by omega) (fun _=>by simp) x.first.deps
 have h1:=oN (c:=(fun _=>1)) (f:=(fun _=>0)) (m:=16) (by omega) (fun _=>by simp) x.attr.deps;have h2:=oN (c:=(fun _=>1)) (f:=(fun _=>0)) (m:=16) (by omega) (fun _=>by simp) x.who;have h3:=oN (c:=aL) (f:=aG) (m:=16) (by omega) Gax x.seen;rw[nE,qM]
 try simp only[iO]at *
 omega
theorem Abu (ds:List D)(h:WTs [.int .i64,.int .i64,.int .i64,.int .i64,.int .i64,.int .i64,.int .i64,.int .i64,.int .i64,.int .i64,.sl 8 [.int .i64],.int .i64,.sl 8 [.int .i64],.bool,.sl 8 [.int .i64],.sl 96 [.int .i64,.int .i64,.int .i64,.int .i64,.int .i64,.int .i64,.int .i64,.int .i64,.int .i64,.sl 8 [.int .i64]]] ds):∃ x:aQ,ds=Enc.enc x/\pM x:=by
 simp only[WTs]at h;obtain⟨d0,r0,rfl,w0,d1,r1,rfl,w1,d2,r2,rfl,w2,d3,r3,rfl,w3,d4,r4,rfl,w4,d5,r5,rfl,w5,d6,r6,rfl,w6,d7,r7,rfl,w7,d8,r8,rfl,w8,d9,r9,rfl,w9,d10,r10,rfl,w10,d11,r11,rfl,w11,d12,r12,rfl,w12,d13,r13,rfl,w13,d14,r14,rfl,w14,d15,r15,rfl,w15,rfl⟩:=h;obtain⟨x0,rfl,-,-⟩:=jC w0;obtain⟨x1,rfl,-,-⟩:=jC w1;obtain⟨x2,rfl,-,-⟩:=jC w2;obtain⟨x3,rfl,-,-⟩:=jC w3;obtain⟨x4,rfl,-,-⟩:=jC w4;obtain⟨x5,rfl,-,-⟩:=jC w5;obtain⟨x6,rfl,-,-⟩:=jC w6;obtain⟨x7,rfl,-,-⟩:=jC w7;obtain⟨x8,rfl,-,-⟩:=jC w8;obtain⟨x9,rfl,-,-⟩:=jC w9;obtain⟨x10,rfl,l10,p10⟩:=Rah (α:=Int) (P:=fun _=>True) rfl Na5 w10;obtain⟨x11,rfl,-,-⟩:=jC w11;obtain⟨x12,rfl,l12,p12⟩:=Rah (α:=Int) (P:=fun _=>True) rfl Na5 w12;obtain⟨x13,rfl⟩:=Ib0 w13;obtain⟨x14,rfl,l14,p14⟩:=Rah (α:=Int) (P:=fun _=>True) rfl Na5 w14;obtain⟨x15,rfl,l15,p15⟩:=Rah (α:=aZ) (P:=fun y=>lW y) rfl Uav w15;exact⟨⟨x0,x1,x2,x3,⟨x4,x5,x6,x7,x8⟩,⟨x9,x10⟩,⟨x11,x12⟩,x13,x14,x15⟩,rfl,⟨oI l10 (by decide),oI l12 (by decide),oI l14 (by decide),⟨oI l15 (by decide),p15⟩⟩⟩
def bV (x:wQ):Nat:=aX x.table+szL aJ x.leads
def Aax (x:wQ):Prop:=(wX x.table)/\(x.leads.length<=140737488351232/\∀ y0∈x.leads,pM y0)
theorem Baw (x:wQ):bV x=szL (szL aG) x.table.rows+szL aJ x.leads:=by
 unfold bV;simp only[iO,Jaz]
 try omega
theorem Uaw (ds:List D)(h:WTs [.int .i64,.int .i64,.sl 24 [.sl 96 [.int .i64,.int .i64,.int .i64,.int .i64,.int .i64,.int .i64,.int .i64,.int .i64,.int .i64,.sl 8 [.int .i64]]],.sl 192 [.int .i64,.int .i64,.int .i64,.int .i64,.int .i64,.int .i64,.int .i64,.int .i64,.int .i64,.int .i64,.sl 8 [.int .i64],.int .i64,.sl 8 [.int .i64],.bool,.sl 8 [.int .i64],.sl 96 [.int .i64,.int .i64,.int .i64,.int .i64,.int .i64,.int .i64,.int .i64,.int .i64,.int .i64,.sl 8 [.int .i64]]]] ds):∃ x:wQ,ds=Enc.enc x/\Aax x:=by
 simp only[WTs]at h;obtain⟨d0,r0,rfl,w0,d1,r1,rfl,w1,d2,r2,rfl,w2,d3,r3,rfl,w3,rfl⟩:=h;obtain⟨x0,rfl,-,-⟩:=jC w0;obtain⟨x1,rfl,-,-⟩:=jC w1;obtain⟨x2,rfl,l2,p2⟩:=Rah (α:=(List aZ)) (P:=fun y=>y.length<=140737488351232/\∀ y0∈y,lW y0) rfl (Abv) w2;obtain⟨x3,rfl,l3,p3⟩:=Rah (α:=aQ) (P:=fun y=>pM y) rfl Abu w3;exact⟨⟨x0,⟨x1,x2⟩,x3⟩,rfl,⟨⟨oI l2 (by decide),p2⟩,⟨oI l3 (by decide),p3⟩⟩⟩
def dJ (x:gH):Nat:=aI x.attr
def fM (x:gH):Nat:=1+1+1+1+1+1+1+1+Iay x.cmd+zX x.attr
def oP (x:gH)(k:Int):gH:=⟨(k),(k+1),(k+1+1),(k+1+1+1),(k+1+1+1+1),(k+1+1+1+1+1),(k+1+1+1+1+1+1),(k+1+1+1+1+1+1+1),⟨(k+1+1+1+1+1+1+1+1),(k+1+1+1+1+1+1+1+1+1),(k+1+1+1+1+1+1+1+1+1+1),(k+1+1+1+1+1+1+1+1+1+1+1),(k+1+1+1+1+1+1+1+1+1+1+1+1)⟩,⟨(k+1+1+1+1+1+1+1+1+1+1+1+1+1),(mkL (fun _=>1) (fun _ k=>k) x.attr.deps (k+1+1+1+1+1+1+1+1+1+1+1+1+1+1))⟩⟩
theorem pY (x:gH):fM x=14+ctL (fun _=>1) x.attr.deps:=by
 unfold fM;simp only[Na6];simp only[Iaw]
 try omega
theorem zA (x:gH):dJ x=x.attr.deps.length:=by
 unfold dJ;simp only[iO,Had]
 try omega
theorem Fbl (x:gH):fM x<=16+16*dJ x:=by
 have h0:=oN (c:=(fun _=>1)) (f:=(fun _=>0)) (m:=16) (by omega) (fun _=>by simp) x.attr.deps;rw[pY,zA]
 try simp only[iO]at *
 omega
theorem SZ:(∀ b:Bool,(b&&true)=b)/\(∀ b:Bool,(true&&b)=b)/\(∀ b:Bool,(b&&false)=false)/\(∀ b:Bool,(false&&b)=false) /\
  (∀ b:Bool,(b||true)=true)/\(∀ b:Bool,(true||b)=true)/\(∀ b:Bool,(b||false)=b)/\(∀ b:Bool,(false||b)=b)/\((!true)=false)/\((!false)=true) :=
 ⟨Bool.and_true,Sbk,Bool.and_false,Sb4,Bool.or_true,Bool.true_or,Bool.or_false,Bool.false_or,rfl,rfl⟩
theorem aB {γ:Type}{a r:γ}(h:jY true a r=r):a=r:=h
theorem S0:type_of% (And.intro Rbk (And.intro @ite_true.{1} (And.intro @ite_false.{1} (And.intro @SA (And.intro @SB (And.intro @SC (And.intro @SP (And.intro @SQ (And.intro @SZ (And.intro @beq_self_eq_true.{0} (And.intro @decide_true (And.intro @decide_false (And.intro @Mb0 @Mb3))))))))))))):=And.intro Rbk (And.intro @ite_true.{1} (And.intro @ite_false.{1} (And.intro @SA (And.intro @SB (And.intro @SC (And.intro @SP (And.intro @SQ (And.intro @SZ (And.intro @beq_self_eq_true.{0} (And.intro @decide_true (And.intro @decide_false (And.intro @Mb0 @Mb3))))))))))))
theorem Gaz {x y:Bool}(h:x=true↔y=true):some [D.bool x]=some [D.bool y]:=by rw[Ubs.2 h]
def bM (n:Int):Bool:=n==3||n==5
theorem aV {n:Int}(h:bM n=true):n=3\/n=5:=by simpa[bM] using h
def inst (n rep no:Int):Bool:=inR rep 0 (n-1)&&inR no 1 6
def wT (c:wW):Bool :=
 if c.kind==0 then decide (c=⟨0,0,0,0,0⟩) else if c.kind==1 then inR c.id 1 999&&inR c.src 0 3&&inR c.dst 0 3&&!(c.src==c.dst)&&inR c.amt 1 1000
 else c.kind==2&&inR c.id 1 999&&inR c.src 0 3&&c.dst==0&&c.amt==0
def Ea5 (c:wW):Int :=
 if !inR c.src 0 3||(c.kind==1&&!inR c.dst 0 3) then 4 else if c.kind==1&&c.src==c.dst then 5 else if !inR c.id 1 999||(c.kind==1&&!inR c.amt 1 1000) then 6 else 0
def fF (n:Int)(a:bY):Bool:=inR a.seq 0 999&&(a.deps.length:Int)==n&&a.deps.all fun x=>inR x 0 6
def none0 (n:Int):bY:=⟨0,Rbs n.toNat 0⟩
def rowOk (n:Int)(r:aZ):Bool :=
 inR r.ballot 0 9999&&inR r.vote 0 r.ballot&&inR r.state 0 3&&(if r.state==0 then r.vote==0&&decide (r.cmd=⟨0,0,0,0,0⟩)&&decide (r.attr=none0 n) else wT r.cmd&&fF n r.attr)
theorem Cao {n:Int}(h:bM n=true):fF n (none0 n)=true:=by
 rcases aV h with rfl|rfl<;>rfl
theorem Ab2 {c:wW}(h:decide (c=⟨0,0,0,0,0⟩)=true):wT c=true:=by
 rw[of_decide_eq_true h];rfl
theorem Ua0 {c:wW}:(Ea5 c==0)=(inR c.src 0 3&&inR c.id 1 999&&(!(c.kind==1)||(inR c.dst 0 3&&!(c.src==c.dst)&&inR c.amt 1 1000))):=by
 unfold Ea5;cases inR c.src 0 3<;>cases inR c.id 1 999<;>cases c.kind==1<;>cases inR c.dst 0 3<;>cases c.src==c.dst<;>cases inR c.amt 1 1000<;>rfl
def oF (xs:List aZ):Prop:=xs.length<=10000000000/\∀ r∈xs,r.attr.deps.length<=10000000000
def gQ (rows:List (List aZ)):Prop:=rows.length<=10000000000/\∀ l∈rows,oF l
theorem Xai (r:aZ):aG r=r.attr.deps.length:=iO
theorem Pad {xs:List aZ}(h:szL aG xs<=1048576):oF xs:=by
 refine⟨Rbz (bW (f:=aG)) (by omega),fun r hr=>?_⟩;have h1:=bS (f:=aG) hr;rw[Xai]at h1;omega
theorem Tax {rows:List (List aZ)}(h:szL (szL aG) rows<=1048576):gQ rows:=by
 refine⟨Rbz (bW (f:=szL aG)) (by omega),fun l hl=>Pad ?_⟩;have h1:=bS (f:=szL aG) hl;omega
def eH (t:aY):Bool:=bM t.n&&(t.rows.length:Int)==t.n&&t.rows.all fun l=>l.all (fun r=>rowOk t.n r)&&decide ((l.length:Int)<=6)
def row0 (n:Int):aZ:=⟨0,0,0,⟨0,0,0,0,0⟩,none0 n⟩
def eY (t:aY)(rep no:Int):aZ:=if no<=(atI t.rows rep).length then atI (atI t.rows rep) (no-1) else row0 t.n
theorem kG {n rep no:Int}(h:inst n rep no=true):0<=rep/\rep<=n-1/\1<=no/\no<=6:=by
 simp only[inst,inR,Qb6,decide_eq_true_eq]at h;omega
theorem bL {t:aY}(h:eH t=true):bM t.n=true:=by
 simp only[eH,Qb6]at h;exact h.1.1
theorem jR {t:aY}(h:eH t=true):(t.rows.length:Int)=t.n:=by
 simp only[eH,Qb6,beq_iff_eq]at h;exact h.1.2
theorem kC {t:aY}{rep no:Int}(h:eH t=true)(hi:inst t.n rep no=true):InB t.rows rep:=by
 have:=jR h;have:=kG hi;unfold InB;omega
theorem qH {t:aY}(h:eH t=true){l:List aZ}(hl:l∈t.rows):l.length<=6/\∀ r∈l,rowOk t.n r=true:=by
 simp only[eH,Qb6,Rb6,decide_eq_true_eq]at h;have:=h.2 l hl;exact⟨by omega,this.1⟩
theorem uF {n:Int}{r:aZ}(h:rowOk n r=true)(hg:bM n=true):(r.attr.deps.length:Int)=n:=by
 have h2:fF n r.attr=true:=by
  simp only[rowOk,Qb6]at h;have h3:=h.2;split at h3
  ·simp only[Qb6]at h3
   rw[of_decide_eq_true h3.2];exact Cao hg
  ·simp only[Qb6]at h3
   exact h3.2
 simp only[fF,Qb6,beq_iff_eq]at h2;exact h2.1.2
theorem jQ {α:Type}[Inhabited α]{xs:List α}{k:Int}(h:InB xs k):atI xs k∈xs:=by
 have h2:=h.lt;have e:((k.toNat:Nat):Int)=k:=by unfold InB at h;omega
 rw[<- e];exact at_mem h2
theorem Aa0 {t:aY}{rep no:Int}(h:eH t=true)(hi:inst t.n rep no=true):rowOk t.n (eY t rep no)=true:=by
 unfold eY;have hb:=kC h hi;have hr:=kG hi;split
 ·exact (qH h (jQ hb)).2 _ (jQ (by unfold InB;omega))
 ·rcases aV (bL h) with e|e<;>rw[e]<;>rfl
theorem Wa6 {t:aY}{rep no:Int}(h:eH t=true)(hi:inst t.n rep no=true):((eY t rep no).attr.deps.length:Int)=t.n:=uF (Aa0 h hi) (bL h)
def ext (n:Int)(l:List aZ)(no:Int):List aZ:=l++Rbs (no-l.length).toNat (row0 n)
def wY (t:aY)(rep no:Int)(r:aZ):aY:=⟨t.n,dK t.rows rep (dK (ext t.n (atI t.rows rep) no) (no-1) r)⟩
theorem Ea1 {n:Int}{l:List aZ}{no:Int}(h:0<=no):((ext n l no).length:Int)=max (l.length:Int) no:=by
 simp only[ext,Rbh,Sbu];omega
def nb (b me:Int):Int:=if b<8+me then 8+me else b+1+(me-b-1) % 8
def nbR (t:aY)(rep no me:Int):Int×Bool:=if eH t&&inst t.n rep no&&inR me 0 (t.n-1)&&decide (nb (eY t rep no).ballot me<=9999) then (nb (eY t rep no).ballot me,true) else (0,false)
theorem xE {n:Int}{r:aZ}(h:rowOk n r=true):0<=r.ballot/\r.ballot<=9999:=by
 simp only[rowOk,inR,Qb6,decide_eq_true_eq]at h;exact h.1.1.1
theorem Saq {x lo hi:Int}(h:inR x lo hi=true):lo<=x/\x<=hi:=by
 simpa[inR] using h
theorem Ba6 {α:Type}{xs:List α}{k:Int}{a:α}:(dK xs k a).length=xs.length:=List.length_set ..
theorem Gbu {α:Type}[Inhabited α]{xs:List α}{j k:Int}{a:α}(hj:0<=j)(hk:0<=k)(h:j≠k):atI (dK xs j a) k=atI xs k:=by
 unfold atI dK;rw[Rbi,Rbi,List.getElem?_set_ne (by omega)]
def Fa0 (xs:List Int)(n:Int):Bool:=xs.any fun x=>x==n
def Sai (xs:List Int)(n:Int):Nat:=(xs.takeWhile fun x=>decide (x<n)).length
def Ebo (xs:List Int)(n:Int):List Int:=if decide ((Sai xs n:Int)<xs.length)&&(atI xs (Sai xs n:Nat)==n) then xs else xs.take (Sai xs n)++[n]++xs.drop (Sai xs n)
def Abx (l:List aZ)(k:Int)(m:Nat):List (List Int):=(Uby m).flatMap fun i:Nat=>if (atI l (i:Int)).state==3 then [[k,(i:Int)+1]] else []
def Qbo (rows:List (List aZ))(m:Nat):List (List Int):=(Uby m).flatMap fun k:Nat=>Abx (atI rows (k:Int)) k (atI rows (k:Int)).length
def Jbe (rows:List (List aZ)):List (List Int):=Qbo rows rows.length
theorem Fbm {rows:List (List aZ)}{x:List Int}(h:x∈Jbe rows):∃ k i:Nat,k<rows.length/\i<(atI rows (k:Int)).length/\x=[(k:Int),(i:Int)+1]/\(atI (atI rows (k:Int)) (i:Int)).state=3:=by
 unfold Jbe Qbo Abx at h;simp only[Ubz,Ubj]at h;obtain⟨k,hk,i,hi,hx⟩:=h;split at hx
 ·rename_i hs
  exact⟨k,i,hk,hi,by simpa using hx,by simpa using hs⟩
 ·cases hx
theorem Aby {t:aY}(ht:eH t=true){x:List Int}(h:x∈Jbe t.rows):InB x 0/\InB x 1/\x.length=2/\inst t.n (atI x 0) (atI x 1)=true/\(eY t (atI x 0) (atI x 1)).state=3:=by
 obtain⟨k,i,hk,hi,rfl,hs⟩:=Fbm h;have h1:=(qH ht (at_mem hk)).1;have h2:=jR ht;refine⟨by unfold InB;simp,by unfold InB;simp,rfl,?_,?_⟩
 ·simp only[atI,inst,inR,Qb6,decide_eq_true_eq]
  simp;omega
 ·show (eY t (k:Int) ((i:Int)+1)).state=3
  unfold eY;rw[if_pos (by omega),show (i:Int)+1-1=i by omega];exact hs
def Abf (l:List (List Int))(x:List Int):Int:=ixF (fun y=>decide (x=y)) l
def Gbp (k:Int)(rep no:Int)(m:Nat):List (List Int):=(Uby m).flatMap fun i:Nat=>if !(k==rep)||!((i:Int)+1==no) then [[k,(i:Int)+1]] else []
def Pb2 (deps:List Int)(rep no:Int)(m:Nat):List (List Int):=(Uby m).flatMap fun k:Nat=>Gbp k rep no (atI deps (k:Int)).toNat
def Nbs (t:aY)(rep no:Int):List (List Int):=Pb2 (eY t rep no).attr.deps rep no (eY t rep no).attr.deps.length
theorem Vaw {n:Int}{r:aZ}(h:rowOk n r=true)(hg:bM n=true):∀ d∈r.attr.deps,0<=d/\d<=6:=by
 have h2:fF n r.attr=true:=by
  simp only[rowOk,Qb6]at h;have h3:=h.2;split at h3
  ·simp only[Qb6]at h3
   rw[of_decide_eq_true h3.2];exact Cao hg
  ·simp only[Qb6]at h3
   exact h3.2
 simp only[fF,Qb6,Rb6]at h2;exact fun d hd=>Saq (h2.2 d hd)
theorem Fbj {deps:List Int}{rep no:Int}{m:Nat}{y:List Int}:y∈Pb2 deps rep no m↔∃ k i:Nat,k<m/\(i:Int)<atI deps (k:Int)/\¬((k:Int)=rep/\(i:Int)+1=no)/\y=[(k:Int),(i:Int)+1]:=by
 unfold Pb2 Gbp;simp only[Ubz,Ubj];constructor
 ·rintro⟨k,hk,i,hi,hy⟩
  split at hy
  ·rename_i hc
   refine⟨k,i,hk,by omega,?_,by simpa using hy⟩;simp only[Sbv,Rb0,beq_eq_false_iff_ne,ne_eq]at hc;omega
  ·cases hy
 ·rintro⟨k,i,hk,hi,dz,rfl⟩
  refine⟨k,hk,i,by omega,?_⟩;rw[if_pos]
  ·simp
  ·simp only[Sbv,Rb0,beq_eq_false_iff_ne,ne_eq]
   omega
def oO (xs:List Int):Prop:=xs.Pairwise (· < ·)
theorem Eaf:∀ {xs ys:List Int},oO xs->oO ys->(∀ x,x∈xs↔x∈ys)->xs=ys
 |[],[],_,_,_=>rfl
 |[],y::ys,_,_,h=>by have:=(h y).2 Rbr;cases this
 |x::xs,[],_,_,h=>by have:=(h x).1 Rbr;cases this
 | x :: xs, y :: ys, hx, hy, h => by
  unfold oO at hx hy;rw[Tbc]at hx hy
  have e:x=y:=by
   rcases Rbg.1 ((h x).1 Rbr) with h1|h1
   ·exact h1
   ·rcases Rbg.1 ((h y).2 Rbr) with h2|h2
    ·exact h2.symm
    ·have:=hx.1 y h2
     have:=hy.1 x h1;omega
  subst e;congr 1;refine Eaf hx.2 hy.2 fun z=>?_
  constructor
  ·intro hz
   rcases Rbg.1 ((h z).1 (Rbl _ hz)) with h1|h1
   ·subst h1
    exact absurd (hx.1 z hz) (by omega)
   ·exact h1
  ·intro hz
   rcases Rbg.1 ((h z).2 (Rbl _ hz)) with h1|h1
   ·subst h1
    exact absurd (hy.1 z hz) (by omega)
   ·exact h1
theorem Pau {x n:Int}{xs:List Int}:Ebo (x::xs) n=if x<n then x::Ebo xs n else if x==n then x::xs else n::x::xs:=by
 by_cases h:x<n
 ·rw[if_pos h]
  have e:Sai (x::xs) n=Sai xs n+1:=by simp[Sai,h]
  have ea:atI (x::xs) ((Sai xs n+1:Nat):Int)=atI xs (Sai xs n:Nat):=by
   rw[wE,wE,List.getD_cons_succ]
  have el:decide (((Sai xs n+1:Nat):Int)<(x::xs).length)=decide (((Sai xs n:Nat):Int)<xs.length):=by
   simp only[Rbw,decide_eq_decide];omega
  unfold Ebo;rw[e,ea,el];split
  ·rfl
  ·simp
 ·rw[if_neg h]
  have e:Sai (x::xs) n=0:=by simp[Sai,h]
  unfold Ebo;rw[e];have ea:atI (x::xs) ((0:Nat):Int)=x:=rfl;rw[ea];have el:decide (((0:Nat):Int)<(x::xs).length)=true:=by simp
  rw[el,Sbk];split
  ·rfl
  ·simp
theorem Nab:∀ {xs:List Int} {n x:Int},x∈Ebo xs n↔x∈xs\/x=n
 |[],n,x=>by simp[Ebo,Sai]
 | y :: ys, n, x => by
  rw[Pau];split
  ·rw[Rbg,Nab,Rbg,or_assoc]
  ·split
   ·rename_i h
    have:y=n:=by simpa using h
    subst this;simp[or_comm]
   ·simp only[Rbg]
    constructor
    ·rintro (h|h|h)
     ·exact .inr h
     ·exact .inl (.inl h)
     ·exact .inl (.inr h)
    ·rintro ((h|h)|h)
     ·exact .inr (.inl h)
     ·exact .inr (.inr h)
     ·exact .inl h
theorem Hav:∀ {xs:List Int} {n:Int},oO xs->oO (Ebo xs n)
 |[],n,_=>by simp[Ebo,Sai,oO]
 | y :: ys, n, h => by
  have h':=h;unfold oO at h;rw[Tbc]at h;rw[Pau];split
  ·unfold oO
   rw[Tbc];refine⟨fun z hz=>?_,Hav h.2⟩
   rcases Nab.1 hz with h1|h1
   ·exact h.1 z h1
   ·omega
  ·split
   ·exact h'
   ·rename_i h1 h2
    have:y≠n:=by simpa using h2
    unfold oO;rw[Tbc];refine⟨fun z hz=>?_,h'⟩
    rcases Rbg.1 hz with h3|h3
    ·omega
    ·have:=h.1 z h3
     omega
theorem Eb2 {α:Type}[Inhabited α]{p:α->Bool}{xs:List α}(h:0<=ixF p xs):InB xs (ixF p xs)/\p (atI xs (ixF p xs))=true/\∀ k:Nat,(k:Int)<ixF p xs->p (atI xs (k:Int))=false:=by
 unfold ixF at h ⊢
 cases e:xs.findIdx? p with
 |none=>rw[e]at h;simp at h
 | some i =>
  rw[Tb9]at e;obtain⟨hi,hp,a5q⟩:=e;refine⟨aN.2 hi,by simp only;rw[bN hi];exact hp,fun k hk=>?_⟩;have kd:k<i:=by simp only at hk;omega
  rw[bN (by omega)];have:=a5q k kd;simpa using this
theorem Mbs {α:Type}[Inhabited α]{p:α->Bool}{xs:List α}{k:Nat}(hk:k<xs.length)(hp:p (atI xs (k:Int))=true):0<=ixF p xs:=by
 have h:xs.any p=true:=Tbx.2 ⟨_,at_mem hk,hp⟩;rw[<- eB]at h;exact of_decide_eq_true h
section
variable {T:Nat->Ent} {β:Type}
theorem Mba {body:Tm β}{ρ:List D}(j s n:Nat)(p:Nat->Bool)(r:List D)
  (h1:∀ i:Nat,s<=i->i<n->decide ((i:Int)<n)=true->Er T body (ρ++[i64 i])=jY (p i) (some (.cont,[i64 ((i:Int)+1)])) (some (.ret,r)))
  (h3:∀ i:Nat,n<=i->decide ((i:Int)<n)=false->Er T body (ρ++[i64 i])=some (.yield j,[])) :
  Er T (.loop [.c (i64 s)] body) ρ=jY (wV (fun i=>decide (i<s)||p i) n) (some (.yield j,[])) (some (.ret,r)):=by
 obtain⟨q,h4,h5⟩:=Pa3 (T:=T) (body:=body) (ρ:=ρ) (fun i:Nat=>n-i) (fun i=>s<=i/\∀ k,s<=k->k<i->k<n->p k=true) (fun i=>[i64 (i:Nat)])
  (fun q=>q=jY (wV (fun i=>decide (i<s)||p i) n) (.yield j,[]) (.ret,r))
  (fun i ⟨hs,df⟩=>by
   rcases Rbu i n with bh|mo
   ·have e:=h1 i hs bh (by simp;omega)
    cases hp:p i with
    | true =>
     rw[hp]at e
     exact⟨_,e,.inl ⟨rfl,i+1,⟨by omega,fun k h2 h6 h7=>by
      rcases Rbu k i with h8|h8
      ·exact df k h2 h8 h7
      ·obtain rfl:k=i:=by omega
       exact hp⟩,by omega,rfl⟩⟩
    | false =>
     rw[hp]at e;have hf:wV (fun i=>decide (i<s)||p i) n=false:=Faa.2 ⟨i,bh,by simp[hp];omega⟩;exact⟨_,e,.inr ⟨by simp,by rw[hf];rfl⟩⟩
   ·have ht:wV (fun i=>decide (i<s)||p i) n=true:=jB.2 fun k hk=>by
     by_cases h2:k<s
     ·simp[h2]
     ·rw[df k (by omega) (by omega) hk,Bool.or_true]
    exact⟨_,h3 i mo (by simp;omega),.inr ⟨by simp,by rw[ht];rfl⟩⟩)
  n s (by omega) ⟨Rbt _,fun k h1 h2 _=>by omega⟩ [.c (i64 s)] rfl
 rw[h4,h5];cases wV (fun i=>decide (i<s)||p i) n<;>rfl
end
def sK (n:Int):Prop:=0<=n/\n<=1000000
theorem Qab {n:Int}(h:bM n=true):sK n:=by have:=aV h;unfold sK;omega
theorem Kal (k:Int):k=1\/k=2\/k=3\/(k==1)=false/\(k==2)=false/\(k==3)=false:=by
 by_cases h1:k=1
 ·exact .inl h1
 by_cases h2:k=2
 ·exact .inr (.inl h2)
 by_cases h3:k=3
 ·exact .inr (.inr (.inl h3))
 ·exact .inr (.inr (.inr ⟨by simpa using h1,by simpa using h2,by simpa using h3⟩))
def Aab (xs:List Int)(i:Nat):Bool:=!(decide (0<i)&&decide (atI xs (i:Int)<=atI xs ((i:Int)-1)))
def Haq (xs:List Int)(lo hi:Int):Bool:=wV (fun i=>inR (atI xs (i:Int)) lo hi&&Aab xs i) xs.length
def Ha9 (p l:aQ):Bool:=decide (l.rep<p.rep)||(p.rep==l.rep&&decide (l.no<=p.no))
def iY (n me:Int)(l:aQ):Bool :=
  inst n l.rep l.no&&inR l.ballot 0 9999&&Haq l.who 0 (n-1)&&Fa0 l.who me&&fF n l.first&&fF n l.attr &&
  (if l.phase==1 then wT l.cmd&&(l.seen.length:Int)==0 else if l.phase==2 then wT l.cmd&&(l.seen.length:Int)==0&&!l.same&&decide (l.first=l.attr)
   else if l.phase==3 then decide (l.cmd=⟨0,0,0,0,0⟩)&&decide (l.first=none0 n)&&decide (l.attr=none0 n)&&!l.same&&(l.seen.length:Int)==l.who.length&&l.seen.all fun r=>rowOk n r&&!(r.state==3)
   else false)
def yC (n me:Int)(ls:List aQ)(i:Nat):Bool:=iY n me (atI ls (i:Int))&&!(decide (0<(i:Int))&&Ha9 (atI ls ((i:Int)-1)) (atI ls (i:Int)))
def iN (r:wQ):Bool:=eH r.table&&inR r.me 0 (r.table.n-1)&&wV (yC r.table.n r.me r.leads) r.leads.length
def Ja9 (l:aQ):Prop:=l.first.deps.length<=10000000000/\l.attr.deps.length<=10000000000/\l.who.length<=10000000000/\oF l.seen
def iH (l:List aQ):Prop:=l.length<=10000000000/\∀ x∈l,Ja9 x
def Hbh (r:wQ):Prop:=gQ r.table.rows/\iH r.leads
theorem Pae {l:aQ}(h:aJ l<=1048576):Ja9 l:=by
 rw[qM]at h;exact⟨by omega,by omega,by omega,Pad (by omega)⟩
theorem Vaq {l:List aQ}(h:szL aJ l<=1048576):iH l:=by
 refine⟨Rbz (bW (f:=aJ)) (by omega),fun x hx=>Pae ?_⟩;have:=bS (f:=aJ) hx;omega
theorem Tay {r:wQ}(h:bV r<=1048576):Hbh r:=by
 rw[Baw]at h;exact⟨Tax (by omega),Vaq (by omega)⟩
def Gay:List Int->List Int->Option Int
 |[],_=>none
 |_::_,[]=>some 1
 |x::xs,y::ys=>if x<y then some (-1) else if y<x then some 1 else Gay xs ys
def Wav (xs ys:List Int):Int:=match Gay xs ys with
 |some c=>c
 |none=>if decide ((xs.length:Int)<ys.length) then -1 else 0
def Uaz (a b:Int):Int:=if a<b then -1 else if b<a then 1 else 0
theorem Qa6 {xs ys:List Int}{i:Nat}(h:i<xs.length)(h2:i<ys.length):Gay (xs.drop i) (ys.drop i)=if atI xs (i:Int)<atI ys (i:Int) then some (-1) else if atI ys (i:Int)<atI xs (i:Int) then some 1 else Gay (xs.drop (i+1)) (ys.drop (i+1)):=by
 rw[Sb8 h,Sb8 h2,bN h,bN h2];rfl
theorem Uay {xs ys:List Int}{i:Nat}(h:i<xs.length)(h2:ys.length<=i):Gay (xs.drop i) (ys.drop i)=some 1:=by
 rw[Sb8 h,List.drop_eq_nil_of_le h2];rfl
theorem Qbp (a b c d:Int):decide (Wav [a,b] [c,d]<=0)=(decide (a<c)||(c==a&&decide (b<=d))):=by
 unfold Wav Gay;by_cases h1:a<c
 ·simp[h1]
 ·rw[if_neg h1]
  by_cases h2:c<a
  ·simp[h1,h2];omega
  ·rw[if_neg h2]
   have:c=a:=by omega
   subst this;unfold Gay;by_cases h3:b<d
   ·simp[h3];omega
   ·rw[if_neg h3]
    by_cases h4:d<b
    ·simp[h4]
    ·rw[if_neg h4]
     simp[Gay];omega
theorem Ja1 {α:Type}{f:α->Nat}{k:Nat}:∀ {xs:List α},(∀ x∈xs,f x<=k)->szL f xs<=xs.length*(k+1)
 |[],_=>by simp[szL]
 | x :: xs, h => by
  have h1:=h x Rbr;have h2:=Ja1 (f:=f) (k:=k) (xs:=xs) fun y hy=>h y (Rbl _ hy)
  rw[Man,Rbw,Nat.succ_mul];omega
theorem Uae {α:Type}{xs:List α}{k:Int}{a x:α}(h:x∈dK xs k a):x∈xs\/x=a:=List.mem_or_eq_of_mem_set h
def u64 (n:Int):D:=.int .u64 n
theorem u_conv {a:Int}:(aS.conv .u64).run [i64 a]=some [u64 (IntKind.u64.wrap a)]:=rfl
theorem Ibw {α:Type}[Inhabited α]{xs ys:List α}{k:Int}(h0:0<=k)(h:k<(xs.length:Int)):atI (xs++ys) k=atI xs k:=by
 unfold atI;rw[Rbi,Rbi,List.getElem?_append_left (by omega)]
theorem Ibv {α:Type}[Inhabited α]{xs:List α}{a:α}{n:Nat}{k:Int}(h:(xs.length:Int)<=k)(h2:k<(xs.length:Int)+n):atI (xs++Rbs n a) k=a:=by
 unfold atI;rw[Rbi,List.getElem?_append_right (by omega),List.getElem?_replicate_of_lt (by omega)];rfl
theorem Wa5 {t:aY}{rep no:Int}{r:aZ}(h:eH t=true)(hi:inst t.n rep no=true){k i:Int}(hk:inst t.n k i=true):eY (wY t rep no r) k i=if k=rep/\i=no then r else eY t k i:=by
 obtain⟨r1,r2,r3,r4⟩:=kG hi;obtain⟨k1,k2,k3,k4⟩:=kG hk;have hb:=kC h hi;have gC:=kC h hk;have hl:=Ea1 (n:=t.n) (l:=atI t.rows rep) (no:=no) (by omega);unfold eY;simp only[wY];by_cases rv:k=rep
 ·subst rv
  have e:atI (dK t.rows k (dK (ext t.n (atI t.rows k) no) (no-1) r)) k=dK (ext t.n (atI t.rows k) no) (no-1) r:=gN.1 hb;simp only[e,Ba6,true_and];by_cases jc:i=no
  ·subst jc
   rw[if_pos (by omega),if_pos rfl];exact gN.1 (by unfold InB;omega)
  ·rw[if_neg jc]
   rw[Gbu (by omega) (by omega) (by omega)];by_cases h1:i<=((atI t.rows k).length:Int)
   ·rw[if_pos (by omega),if_pos h1]
    exact Ibw (by omega) (by omega)
   ·rw[if_neg h1]
    split
    ·exact Ibv (by omega) (by omega)
    ·rfl
 ·rw[if_neg (fun hc=>rv hc.1)]
  have e:atI (dK t.rows rep (dK (ext t.n (atI t.rows rep) no) (no-1) r)) k=atI t.rows k:=Gbu (by omega) (by omega) (fun e=>rv e.symm);simp only[e]
theorem Yaz {n:Int}(h:bM n=true):rowOk n (row0 n)=true:=by
 have hn:=aV h
 rcases hn with rfl|rfl<;>decide
theorem Wa4 {t:aY}{rep no:Int}{r:aZ}(h:eH t=true)(hi:inst t.n rep no=true)(hr:rowOk t.n r=true):eH (wY t rep no r)=true:=by
 obtain⟨r1,r2,r3,r4⟩:=kG hi;have hb:=kC h hi;have hg:=bL h;have hlen:=jR h;have hl:=Ea1 (n:=t.n) (l:=atI t.rows rep) (no:=no) (by omega);obtain⟨h6,sk⟩:=qH h (jQ hb);simp only[eH,wY,Qb6,Rb6,beq_iff_eq,decide_eq_true_eq,Ba6];refine⟨⟨hg,hlen⟩,fun l ka=>?_⟩
 rcases Uae ka with ka|rfl
 ·obtain⟨q1,q2⟩:=qH h ka
  exact⟨q2,by omega⟩
 ·refine⟨fun x hx=>?_,by rw[Ba6];omega⟩
  rcases Uae hx with hx|rfl
  ·unfold ext at hx
   rcases Rbq.1 hx with hx|hx
   ·exact sk x hx
   ·rw[List.eq_of_mem_replicate hx]
    exact Yaz hg
  ·exact hr
theorem Ebu {b me:Int}(hb:0<=b)(h0:0<=me)(h1:me<=7):b<nb b me/\nb b me % 8=me/\8<=nb b me:=by
 unfold nb;split<;>omega
theorem Ibd {x lo hi:Int}:inR x lo hi=true↔lo<=x/\x<=hi:=by simp[inR]
def u8 (c:UInt8):D:=.int .u8 (c.toNat:Nat)
theorem zZ {n:Int}{a:bY}(h:fF n a=true):0<=a.seq/\a.seq<=999/\(a.deps.length:Int)=n/\∀ x∈a.deps,0<=x/\x<=6:=by
 simp only[fF,inR,Qb6,decide_eq_true_eq,beq_iff_eq,Rb6]at h;exact⟨h.1.1.1,h.1.1.2,h.1.2,fun x hx=>h.2 x hx⟩
def prL (y:List Int):Int×Int:=(atI y 0,atI y 1)
def toL (p:Int×Int):List Int:=[p.1,p.2]
theorem Aa1 {y:List Int}(h:y.length=2):toL (prL y)=y:=by
 match y,h with
 |[a,b],_=>rfl
theorem Ya8 (p:Int×Int):prL (toL p)=p:=rfl
def ltL (y z:List Int):Prop:=ltQ (prL y) (prL z)=true
theorem tC {y z:List Int}:ltL y z↔atI y 0<atI z 0\/(atI y 0=atI z 0/\atI y 1<atI z 1):=xU
def yT (l:List (List Int)):Prop:=l.Pairwise ltL
theorem Ba3:∀ {xs ys:List (List Int)},yT xs->yT ys->(∀ x,x∈xs↔x∈ys)->xs=ys
 |[],[],_,_,_=>rfl
 |[],y::ys,_,_,h=>by have:=(h y).2 Rbr;cases this
 |x::xs,[],_,_,h=>by have:=(h x).1 Rbr;cases this
 | x :: xs, y :: ys, hx, hy, h => by
  unfold yT at hx hy;rw[Tbc]at hx hy
  have e:x=y:=by
   rcases Rbg.1 ((h x).1 Rbr) with h1|h1
   ·exact h1
   ·rcases Rbg.1 ((h y).2 Rbr) with h2|h2
    ·exact h2.symm
    ·have h3:=tC.1 (hx.1 y h2)
     have h4:=tC.1 (hy.1 x h1);omega
  subst e;congr 1;refine Ba3 hx.2 hy.2 fun z=>?_
  constructor
  ·intro hz
   rcases Rbg.1 ((h z).1 (Rbl _ hz)) with h1|h1
   ·subst h1
    have:=tC.1 (hx.1 z hz);omega
   ·exact h1
  ·intro hz
   rcases Rbg.1 ((h z).2 (Rbl _ hz)) with h1|h1
   ·subst h1
    have:=tC.1 (hy.1 z hz);omega
   ·exact h1
theorem Hao {l:List (List Int)}(h2:∀ y∈l,y.length=2)(hn:l.Nodup):yT ((Pac id (l.map prL)).map toL)/\∀ y,y∈(Pac id (l.map prL)).map toL↔y∈l:=by
 have hp:=Ja8 id (l.map prL);have hs:=Fan id (l.map prL)
 have hnd:(l.map prL).Nodup:=by
  unfold List.Nodup;rw[List.pairwise_map];refine List.Pairwise.imp_of_mem (fun {a b} ha hb rz e=>rz ?_) hn;rw[<- Aa1 (h2 a ha),<- Aa1 (h2 b hb),e]
 have a6t:(Pac id (l.map prL)).Nodup:=hp.nodup_iff.2 hnd;constructor
 ·unfold yT
  rw[List.pairwise_map];have h3:=List.pairwise_and_iff.2 ⟨hs,a6t⟩;refine h3.imp fun {a b} rz=>?_
  unfold ltL;rw[Ya8,Ya8];have h4:ltQ b a=false:=rz.1
  cases h5:ltQ a b with
  |true=>rfl
  |false=>exact absurd (Ebw h5 h4) rz.2
 ·intro y
  rw[Sbp];constructor
  ·rintro⟨p,hp1,rfl⟩
   obtain⟨z,hz,rfl⟩:=Sbp.1 (hp.mem_iff.1 hp1);rw[Aa1 (h2 z hz)];exact hz
  ·intro hy
   exact⟨prL y,hp.mem_iff.2 (Sbp.2 ⟨y,hy,rfl⟩),Aa1 (h2 y hy)⟩
def kZ (n:Int)(y:List Int):Prop:=y.length=2/\inst n (atI y 0) (atI y 1)=true
def wG (n:Nat):List (List Int):=(Uby n).flatMap fun k:Nat=>(Uby 6).map fun i:Nat=>[(k:Int),(i:Int)+1]
theorem Ban {n:Nat}{y:List Int}:y∈wG n↔kZ n y:=by
 unfold wG kZ;simp only[Ubz,Ubj,Sbp];constructor
 ·rintro⟨k,hk,i,hi,rfl⟩
  refine⟨rfl,?_⟩;simp only[atI,inst,inR,Qb6,decide_eq_true_eq];simp;omega
 ·rintro⟨h1,h2⟩
  match y,h1 with
  | [a, b], _ =>
   have h3:=kG h2;simp only[atI]at h3;simp at h3;refine⟨a.toNat,by omega,(b-1).toNat,by omega,?_⟩;rw[show ((a.toNat:Nat):Int)=a by omega,show (((b-1).toNat:Nat):Int)=b-1 by omega,show b-1+1=b by omega]
theorem Tab (n:Nat):(wG n).length=6*n:=by
 unfold wG;rw[List.length_flatMap];simp[List.map_const'];omega
theorem Gaf (n:Nat):yT (wG n):=by
 unfold yT wG;rw[List.pairwise_flatMap];refine⟨fun k hk=>?_,?_⟩
 ·rw[List.pairwise_map]
  refine List.pairwise_lt_range.imp fun {a b} rz=>?_
  rw[tC];simp[atI];omega
 ·refine List.pairwise_lt_range.imp fun {a b} rz=>?_
  intro x hx y hy;obtain⟨i,hi,rfl⟩:=Sbp.1 hx;obtain⟨j,hj,rfl⟩:=Sbp.1 hy;rw[tC];simp[atI];omega
theorem uI {α:Type}[DecidableEq α]:∀ {l m:List α},l.Nodup->(∀ x∈l,x∈m)->l.length<=m.length
 |[],_,_,_=>Nat.zero_le _
 | x :: l, m, hn, hs => by
  rw[List.nodup_cons]at hn;have hx:=hs x Rbr
  have:=uI (l:=l) (m:=m.erase x) hn.2 fun y hy=>by
   have dz:y≠x:=fun e=>hn.1 (by rw[<- e];exact hy)
   exact (List.mem_erase_of_ne dz).2 (hs y (Rbl _ hy))
  have h1:=List.length_erase_of_mem hx;have h2:=List.length_pos_of_mem hx;simp only[Rbw];omega
theorem Gau {n:Int}{l:List (List Int)}(hg:bM n=true)(hn:l.Nodup)(h:∀ y∈l,kZ n y):l.length<=30:=by
 have h1:=aV hg;have e:((n.toNat:Nat):Int)=n:=by omega
 have:=uI hn (m:=wG n.toNat) fun y hy=>Ban.2 (by rw[e];exact h y hy)
 rw[Tab]at this;omega
def Za3 (k:Int)(m:Nat):List (List Int):=(Uby m).map fun i:Nat=>[k,(i:Int)+1]
def Ibe (deps:List Int)(m:Nat):List (List Int):=(Uby m).flatMap fun k:Nat=>Za3 k (atI deps (k:Int)).toNat
def Gai (t:aY)(x:List Int):List (List Int):=Ibe (eY t (atI x 0) (atI x 1)).attr.deps (eY t (atI x 0) (atI x 1)).attr.deps.length
theorem Qai {deps:List Int}{m:Nat}{y:List Int}:y∈Ibe deps m↔∃ k i:Nat,k<m/\(i:Int)<atI deps (k:Int)/\y=[(k:Int),(i:Int)+1]:=by
 unfold Ibe Za3;simp only[Ubz,Ubj,Sbp];constructor
 ·rintro⟨k,hk,i,hi,rfl⟩
  exact⟨k,i,hk,by omega,rfl⟩
 ·rintro⟨k,i,hk,hi,rfl⟩
  exact⟨k,hk,i,by omega,rfl⟩
theorem Va7 {t:aY}(ht:eH t=true){x y:List Int}(hx:kZ t.n x)(hy:y∈Gai t x):kZ t.n y:=by
 unfold Gai at hy;obtain⟨k,i,hk,hi,rfl⟩:=Qai.1 hy;have h1:=Wa6 ht hx.2;have h2:=Vaw (Aa0 ht hx.2) (bL ht) _ (at_mem hk);refine⟨rfl,?_⟩;simp only[atI,inst,inR,Qb6,decide_eq_true_eq]at h2 ⊢;simp only[atI]at hi;simp;omega
theorem Qa1 {t:aY}{x y:List Int}(hx:x.length=2):y∈Nbs t (atI x 0) (atI x 1)↔y∈Gai t x/\y≠x:=by
 unfold Nbs Gai;rw[Fbj,Qai]
 match x,hx with
 | [a, b], _ =>
  constructor
  ·rintro⟨k,i,h1,h2,h3,rfl⟩
   refine⟨⟨k,i,h1,h2,rfl⟩,fun e=>h3 ?_⟩;simp only[Sbz,and_true]at e;exact e
  ·rintro⟨⟨k,i,h1,h2,rfl⟩,dz⟩
   refine⟨k,i,h1,h2,fun e=>dz ?_,rfl⟩;have e1:(k:Int)=a:=e.1;have e2:(i:Int)+1=b:=e.2;rw[e1,e2]
def Uax (t:aY)(y:List Int):Bool:=(eY t (atI y 0) (atI y 1)).state==3
inductive Jad (t:aY) (x:List Int):List Int->Prop
 |base:Jad t x x
 |step {z y:List Int} (h:Jad t x z) (hc:Uax t z=true) (hy:y∈Gai t z):Jad t x y
theorem Jad.inst {t:aY}(ht:eH t=true){x y:List Int}(hx:kZ t.n x)(h:Jad t x y):kZ t.n y:=by
 induction h with
 |base=>exact hx
 |step _ _ hy ih=>exact Va7 ht ih hy
open Classical in
noncomputable def Ia7 (t:aY)(x:List Int):List (List Int):=(wG t.n.toNat).filter fun y=>decide (Jad t x y/\Uax t y=false)
theorem Ia6 (t:aY)(x:List Int):yT (Ia7 t x):=by
 unfold Ia7;exact (Gaf _).filter _
open Classical in
theorem Ka2 {t:aY}(ht:eH t=true){x y:List Int}(hx:kZ t.n x):y∈Ia7 t x↔Jad t x y/\Uax t y=false:=by
 have h1:=aV (bL ht);have e:((t.n.toNat:Nat):Int)=t.n:=by omega
 unfold Ia7;rw[Tbr,decide_eq_true_eq,Ban,e];exact⟨fun h=>h.2,fun h=>⟨h.1.inst ht hx,h⟩⟩
theorem Ra9 {l:List (List Int)}(h:yT l):l.Nodup:=by
 unfold yT at h;refine h.imp fun {a b} rz e=>?_
 subst e;have:=tC.1 rz;omega
structure BSt where
 met:List (List Int)
 out:List (List Int)
 wait:List (List Int)
def Ka3 (t:aY)(s:BSt)(y:List Int):BSt:=if s.met.any (fun z=>decide (y=z)) then s else if Uax t y then ⟨s.met++[y],s.out,s.wait++[y]⟩ else ⟨s.met++[y],s.out++[y],s.wait⟩
def Nbu (t:aY)(s:BSt):BSt:=let r:=(Gai t (atI s.wait 0)).foldl (Ka3 t) s;⟨r.met,r.out,r.wait.drop 1⟩
structure BPre (t:aY) (x:List Int) (s:BSt):Prop where
 base:x∈s.met
 nd:s.met.Nodup
 rch:∀ y∈s.met,Jad t x y
 out:∀ y,y∈s.out↔y∈s.met/\Uax t y=false
 ond:s.out.Nodup
 wm:∀ y∈s.wait,y∈s.met/\Uax t y=true
structure BInv (t:aY) (x:List Int) (s:BSt):Prop extends BPre t x s where
 cl:∀ z∈s.met,Uax t z=true->z∈s.wait\/∀ y∈Gai t z,y∈s.met
theorem Ea9 {l:List (List Int)}{y:List Int}:(l.any fun z=>decide (y=z))=true↔y∈l:=by
 rw[Tbx];constructor
 ·rintro⟨z,h1,h2⟩
  rw[of_decide_eq_true h2];exact h1
 ·exact fun h=>⟨y,h,by simp⟩
theorem Oae {l:List (List Int)}{y:List Int}(h:y∉l):(l.any fun z=>decide (y=z))=false:=by
 cases e:l.any fun z=>decide (y=z) with
 |false=>rfl
 |true=>exact absurd (Ea9.1 e) h
theorem uH {l:List (List Int)}{y:List Int}(h:l.Nodup)(hy:y∉l):(l++[y]).Nodup:=by
 rw[List.nodup_append];refine⟨h,by simp,fun a ha b hb e=>?_⟩;rw[Rbb.1 hb]at e;exact hy (e▸ha)
theorem Bbf {t:aY}{x:List Int}{s:BSt}(h:BPre t x s){y:List Int}(hy:Jad t x y) :
  BPre t x (Ka3 t s y)/\y∈(Ka3 t s y).met/\(∀ z∈s.met,z∈(Ka3 t s y).met)/\(∃ w,(Ka3 t s y).wait=s.wait++w)/\(∀ z∈(Ka3 t s y).met,Uax t z=true->z∈(Ka3 t s y).wait\/z∈s.met) /\
   (Ka3 t s y).wait.length+s.met.length<=s.wait.length+(Ka3 t s y).met.length:=by
 unfold Ka3;by_cases hm:y∈s.met
 ·rw[Ea9.2 hm,if_pos rfl]
  exact⟨h,hm,fun z hz=>hz,⟨[],by simp⟩,fun z hz _=>.inr hz,Rbt _⟩
 ·rw[Oae hm]
  simp only[Rbk,if_false];have fm:∀ z,z∈s.met++[y]↔z∈s.met\/z=y:=fun z=>by simp
  cases hc:Uax t y with
  | true =>
   simp only[if_true];refine⟨⟨Qb9 _ h.base,uH h.nd hm,fun z hz=>?_,fun z=>?_,h.ond,fun z hz=>?_⟩,by simp,fun z hz=>Qb9 _ hz,⟨[y],rfl⟩,fun z hz _=>?_,by simp<;>omega⟩
   ·rcases (fm z).1 hz with hz|rfl
    ·exact h.rch z hz
    ·exact hy
   ·rw[h.out,fm]
    constructor
    ·exact fun ⟨h1,h2⟩=>⟨.inl h1,h2⟩
    ·rintro⟨h1|rfl,h2⟩
     ·exact⟨h1,h2⟩
     ·rw[hc]at h2;cases h2
   ·rcases Rbq.1 hz with hz|hz
    ·exact⟨Qb9 _ (h.wm z hz).1,(h.wm z hz).2⟩
    ·rw[Rbb.1 hz]
     exact⟨by simp,hc⟩
   ·rcases (fm z).1 hz with hz|rfl
    ·exact .inr hz
    ·exact .inl (by simp)
  | false =>
   simp only[Rbk,if_false];refine⟨⟨Qb9 _ h.base,uH h.nd hm,fun z hz=>?_,fun z=>?_,uH h.ond (fun hz=>hm ((h.out y).1 hz).1),fun z hz=>?_⟩,by simp,fun z hz=>Qb9 _ hz,⟨[],by simp⟩,fun z hz hcz=>?_,by simp<;>omega⟩
   ·rcases (fm z).1 hz with hz|rfl
    ·exact h.rch z hz
    ·exact hy
   ·rw[Rbq,h.out,fm,Rbb]
    constructor
    ·rintro (⟨h1,h2⟩|rfl)
     ·exact⟨.inl h1,h2⟩
     ·exact⟨.inr rfl,hc⟩
    ·rintro⟨h1|rfl,h2⟩
     ·exact .inl ⟨h1,h2⟩
     ·exact .inr rfl
   ·exact⟨Qb9 _ (h.wm z hz).1,(h.wm z hz).2⟩
   ·rcases (fm z).1 hz with hz|rfl
    ·exact .inr hz
    ·rw[hc]at hcz;cases hcz
theorem Rac {t:aY}{x:List Int}:∀ {ys:List (List Int)} {s:BSt},BPre t x s->(∀ y∈ys,Jad t x y) ->
  BPre t x (ys.foldl (Ka3 t) s)/\(∀ y∈ys,y∈(ys.foldl (Ka3 t) s).met)/\(∀ z∈s.met,z∈(ys.foldl (Ka3 t) s).met)/\(∃ w,(ys.foldl (Ka3 t) s).wait=s.wait++w)/\(∀ z∈(ys.foldl (Ka3 t) s).met,Uax t z=true->z∈(ys.foldl (Ka3 t) s).wait\/z∈s.met) /\
   (ys.foldl (Ka3 t) s).wait.length+s.met.length<=s.wait.length+(ys.foldl (Ka3 t) s).met.length
 |[],s,h,_=>⟨h,by simp,fun z hz=>hz,⟨[],by simp⟩,fun z hz _=>.inr hz,Rbt _⟩
 | y :: ys, s, h, hr => by
  obtain⟨h1,h2,h3,⟨w,h4⟩,h5,h6⟩:=Bbf h (hr y Rbr);obtain⟨k1,k2,k3,⟨w',k4⟩,k5,k6⟩:=Rac (ys:=ys) h1 fun z hz=>hr z (Rbl _ hz)
  rw[Tbv];refine⟨k1,fun z hz=>?_,fun z hz=>k3 z (h3 z hz),⟨w++w',by rw[k4,h4,Rbd]⟩,fun z hz hc=>?_,by omega⟩
  ·rcases Rbg.1 hz with rfl|hz
   ·exact k3 _ h2
   ·exact k2 z hz
  ·rcases k5 z hz hc with h7|h7
   ·exact .inl h7
   ·rcases h5 z h7 hc with h8|h8
    ·exact .inl (by rw[k4];exact Qb9 _ h8)
    ·exact .inr h8
theorem BInv.step {t:aY}{x:List Int}{s:BSt}(h:BInv t x s)(hw:s.wait≠[]):BInv t x (Nbu t s)/\(Nbu t s).wait.length+s.met.length<s.wait.length+(Nbu t s).met.length:=by
 obtain⟨z,w,e⟩:∃ z w,s.wait=z::w:=by
  cases hs:s.wait with
  |nil=>exact absurd hs hw
  |cons z w=>exact⟨z,w,rfl⟩
 have kn:atI s.wait 0=z:=by rw[e];rfl
 obtain⟨hzm,n4⟩:=h.wm z (by rw[e];exact Rbr);have hr:∀ y∈Gai t z,Jad t x y:=fun y hy=>.step (h.rch z hzm) n4 hy
 obtain⟨k1,k2,k3,⟨w',k4⟩,k5,k6⟩:=Rac (ys:=Gai t z) h.toBPre hr;have k4':((Gai t z).foldl (Ka3 t) s).wait.drop 1=w++w':=by rw[k4,e];rfl
 unfold Nbu;rw[kn];dsimp only;refine⟨⟨⟨k1.base,k1.nd,k1.rch,k1.out,k1.ond,fun y hy=>k1.wm y (Sbx hy)⟩,fun y hy hc=>?_⟩,?_⟩
 ·dsimp only at hy ⊢
  by_cases hyz:y=z
  ·subst hyz
   exact .inr k2
  ·rw[k4']
   rcases k5 y hy hc with h1|h1
   ·rw[k4,e]at h1
    rcases Rbq.1 h1 with h1|h1
    ·rcases Rbg.1 h1 with h1|h1
     ·exact absurd h1 hyz
     ·exact .inl (Qb9 _ h1)
    ·exact .inl (Rbc _ h1)
   ·rcases h.cl y h1 hc with h2|h2
    ·rw[e]at h2
     rcases Rbg.1 h2 with h2|h2
     ·exact absurd h2 hyz
     ·exact .inl (Qb9 _ h2)
    ·exact .inr fun u hu=>k3 u (h2 u hu)
 ·have:0<((Gai t z).foldl (Ka3 t) s).wait.length:=by rw[k4,e];simp<;>omega
  rw[Sbj];omega
theorem BInv.done {t:aY}(ht:eH t=true){x:List Int}(hx:kZ t.n x){s:BSt}(h:BInv t x s)(hw:s.wait=[]):(Pac id (s.out.map prL)).map toL=Ia7 t x:=by
 have df:∀ y,Jad t x y->y∈s.met:=by
  intro y hy
  induction hy with
  |base=>exact h.base
  | step _ hc hy ih =>
   rcases h.cl _ ih hc with h1|h1
   ·rw[hw]at h1;cases h1
   ·exact h1 _ hy
 obtain⟨h1,h2⟩:=Hao (l:=s.out) (fun y hy=>((h.rch y ((h.out y).1 hy).1).inst ht hx).1) h.ond;refine Ba3 h1 (Ia6 t x) fun y=>?_
 rw[h2,h.out,Ka2 ht hx];exact⟨fun ⟨h3,h4⟩=>⟨h.rch y h3,h4⟩,fun ⟨h3,h4⟩=>⟨df y h3,h4⟩⟩
theorem BPre.len {t:aY}(ht:eH t=true){x:List Int}(hx:kZ t.n x){s:BSt}(h:BPre t x s):s.met.length<=30/\s.out.length<=30:=by
 have h1:=Gau (bL ht) h.nd fun y hy=>(h.rch y hy).inst ht hx
 have h2:=Gau (bL ht) h.ond fun y hy=>(h.rch y ((h.out y).1 hy).1).inst ht hx
 exact⟨h1,h2⟩
def gtL (y x:List Int):Bool:=decide (atI x 0<atI y 0)||((atI y 0==atI x 0)&&decide (atI x 1<atI y 1))
def Gav (l:List (List Int))(x:List Int):Nat->Nat
 |0=>0
 |k+1=>if gtL (atI l (k:Int)) x then Gav l x k else k+1
def Mbx (l:List (List Int))(x:List Int):List (List Int):=l.take (Gav l x l.length)++[x]++l.drop (Gav l x l.length)
theorem Zaz (l:List (List Int))(x:List Int):∀ m,Gav l x m<=m
 |0=>Rbt _
 | m + 1 => by
  unfold Gav;split
  ·exact Nat.le_succ_of_le (Zaz l x m)
  ·exact Rbt _
theorem Za0 {l:List (List Int)}{x:List Int}:∀ {m j:Nat},Gav l x m<=j->j<m->gtL (atI l (j:Int)) x=true
 |0,j,_,h=>by omega
 | m + 1, j, h, hj => by
  unfold Gav at h;split at h
  ·rename_i hg
   rcases Rbu j m with h1|h1
   ·exact Za0 h h1
   ·obtain rfl:j=m:=by omega
    exact hg
  ·omega
theorem Zay {l:List (List Int)}{x:List Int}:∀ {m:Nat},0<Gav l x m->gtL (atI l ((Gav l x m-1:Nat):Int)) x=false
 |0,h=>by simp[Gav]at h
 | m + 1, h => by
  unfold Gav at h ⊢;split
  ·rename_i hg
   rw[if_pos hg]at h;exact Zay h
  ·rename_i hg
   simpa using hg
theorem Za6 {y x:List Int}:gtL y x=true↔ltL x y:=by
 rw[tC];unfold gtL;simp only[Sbv,Qb6,decide_eq_true_eq,beq_iff_eq];omega
theorem Naw {l:List (List Int)}{x y:List Int}:y∈Mbx l x↔y∈l\/y=x:=by
 unfold Mbx
 have e:∀ k,y∈l.take k++[x]++l.drop k↔y∈l\/y=x:=by
  intro k;have h:=Tbh k l;rw[Rbd,Rbq,Rbq,Rbb];constructor
  ·rintro (h1|h1|h1)
   ·exact .inl (Tb4 h1)
   ·exact .inr h1
   ·exact .inl (Sbx h1)
  ·rintro (h1|h1)
   ·rw[<- h]at h1
    rcases Rbq.1 h1 with h1|h1
    ·exact .inl h1
    ·exact .inr (.inr h1)
   ·exact .inr (.inl h1)
 exact e _
theorem Zax {l:List (List Int)}{x:List Int}(h:yT l)(h2:∀ y∈l,y.length=2)(qp:x.length=2)(hx:x∉l):yT (Mbx l x):=by
 have hk:=Zaz l x l.length;have fN:=Tbh (Gav l x l.length) l
 have mn:∀ y∈l.take (Gav l x l.length),ltL y x:=by
  intro y hy;obtain⟨j,hj⟩:=Sbt.1 hy
  have nu:j<Gav l x l.length:=by
   have:=(Qb8.1 hj).1;rw[Rbv]at this;omega
  rw[List.getElem?_take,if_pos nu]at hj;have ya:=Zay (l:=l) (x:=x) (m:=l.length) (by omega);have gu:Gav l x l.length-1<l.length:=by omega
  rw[bN gu]at ya;have vi:¬ ltL x l[Gav l x l.length-1]:=fun e=>by rw[<- Za6,ya]at e;cases e
  have dz:l[Gav l x l.length-1]≠x:=fun e=>hx (e▸Sb7 gu)
  have jz:ltL l[Gav l x l.length-1] x:=by
   rw[tC]at vi ⊢;have ka:=h2 _ (Sb7 gu);generalize l[Gav l x l.length-1]=z at vi dz ka ⊢
   have hz:¬ (atI z 0=atI x 0/\atI z 1=atI x 1):=by
    rintro⟨e1,e2⟩
    match z,x,ka,qp with
    | [a, b], [c, d], _, _ =>
     have e1':a=c:=e1;have e2':b=d:=e2;exact dz (by rw[e1',e2'])
   omega
  rcases Rbu j (Gav l x l.length-1) with h1|h1
  ·unfold yT at h
   rw[Tbk]at h;have a63:j<l.length:=by omega
   have h3:=h j (Gav l x l.length-1) a63 gu h1;rw[(Qb8.1 hj).2]at h3;rw[tC]at h3 jz ⊢;omega
  ·have e:j=Gav l x l.length-1:=by omega
   subst e;rw[(Qb8.1 hj).2]at jz;exact jz
 have sd:∀ y∈l.drop (Gav l x l.length),ltL x y:=by
  intro y hy;obtain⟨j,hj⟩:=Sbt.1 hy;rw[List.getElem?_drop]at hj;have nu:=(Qb8.1 hj).1;have:=Za0 (l:=l) (x:=x) (m:=l.length) (j:=Gav l x l.length+j) (by omega) nu;rw[bN nu,(Qb8.1 hj).2]at this;exact Za6.1 this
 unfold Mbx yT;unfold yT at h;rw[<- fN,List.pairwise_append]at h;rw[Rbd,List.pairwise_append];refine⟨h.1,?_,fun a ha b hb=>?_⟩
 ·rw[List.singleton_append,Tbc]
  exact⟨sd,h.2.1⟩
 ·rcases Rbq.1 hb with hb|hb
  ·rw[Rbb.1 hb]
   exact mn a ha
  ·exact h.2.2 a ha b hb
structure SSt where
 met:List (List Int)
 out:List (List Int)
def Wat (t:aY)(s:SSt)(y:List Int):SSt:=if s.met.any (fun z=>decide (y=z))||s.out.any (fun z=>decide (y=z)) then s else if Uax t y then ⟨s.met++[y],s.out⟩ else ⟨s.met,Mbx s.out y⟩
def Qbg (t:aY)(s:SSt)(i:Nat):SSt:=(Nbs t (atI (atI s.met (i:Int)) 0) (atI (atI s.met (i:Int)) 1)).foldl (Wat t) s
structure SPre (t:aY) (x:List Int) (s:SSt):Prop where
 base:x∈s.met
 nd:s.met.Nodup
 rch:∀ y∈s.met,Jad t x y/\Uax t y=true
 och:∀ y∈s.out,Jad t x y/\Uax t y=false
 srt:yT s.out
structure Mb4 (t:aY) (x:List Int) (i:Nat) (s:SSt):Prop extends SPre t x s where
 le:i<=s.met.length
 cl:∀ j,j<i->∀ y∈Gai t (atI s.met (j:Int)),y∈s.met\/y∈s.out
theorem Xal {t:aY}(ht:eH t=true){x:List Int}(hx:kZ t.n x){s:SSt}(h:SPre t x s){y:List Int}(hy:Jad t x y) :
  SPre t x (Wat t s y)/\(y∈(Wat t s y).met\/y∈(Wat t s y).out)/\(∃ m,(Wat t s y).met=s.met++m)/\(∀ z∈s.out,z∈(Wat t s y).out):=by
 unfold Wat;by_cases hm:y∈s.met
 ·rw[Ea9.2 hm,Bool.true_or,if_pos rfl]
  exact⟨h,.inl hm,⟨[],by simp⟩,fun z hz=>hz⟩
 ·by_cases ho:y∈s.out
  ·rw[Ea9.2 ho,Bool.or_true,if_pos rfl]
   exact⟨h,.inr ho,⟨[],by simp⟩,fun z hz=>hz⟩
  ·rw[Oae hm,Oae ho]
   simp only[Bool.or_false,Rbk,if_false]
   cases hc:Uax t y with
   | true =>
    simp only[if_true];refine⟨⟨Qb9 _ h.base,uH h.nd hm,fun z hz=>?_,h.och,h.srt⟩,.inl (by simp),⟨[y],rfl⟩,fun z hz=>hz⟩
    rcases Rbq.1 hz with hz|hz
    ·exact h.rch z hz
    ·rw[Rbb.1 hz];exact⟨hy,hc⟩
   | false =>
    simp only[Rbk,if_false];refine⟨⟨h.base,h.nd,h.rch,fun z hz=>?_,Zax h.srt (fun z hz=>((h.och z hz).1.inst ht hx).1) (hy.inst ht hx).1 ho⟩,.inr (Naw.2 (.inr rfl)),⟨[],by simp⟩,fun z hz=>Naw.2 (.inl hz)⟩
    rcases Naw.1 hz with hz|rfl
    ·exact h.och z hz
    ·exact⟨hy,hc⟩
theorem Oa7 {t:aY}(ht:eH t=true){x:List Int}(hx:kZ t.n x):∀ {ys:List (List Int)} {s:SSt},SPre t x s->(∀ y∈ys,Jad t x y) ->
  SPre t x (ys.foldl (Wat t) s)/\(∀ y∈ys,y∈(ys.foldl (Wat t) s).met\/y∈(ys.foldl (Wat t) s).out)/\(∃ m,(ys.foldl (Wat t) s).met=s.met++m)/\(∀ z∈s.out,z∈(ys.foldl (Wat t) s).out)
 |[],s,h,_=>⟨h,by simp,⟨[],by simp⟩,fun z hz=>hz⟩
 | y :: ys, s, h, hr => by
  obtain⟨h1,h2,⟨m,h3⟩,h4⟩:=Xal ht hx h (hr y Rbr);obtain⟨k1,k2,⟨m',k3⟩,k4⟩:=Oa7 ht hx (ys:=ys) h1 fun z hz=>hr z (Rbl _ hz)
  rw[Tbv];refine⟨k1,fun z hz=>?_,⟨m++m',by rw[k3,h3,Rbd]⟩,fun z hz=>k4 z (h4 z hz)⟩
  rcases Rbg.1 hz with rfl|hz
  ·rcases h2 with h2|h2
   ·exact .inl (by rw[k3];exact Qb9 _ h2)
   ·exact .inr (k4 _ h2)
  ·exact k2 z hz
theorem Fbu {α:Type}[Inhabited α]{l m:List α}{j:Nat}(h:j<l.length):atI (l++m) (j:Int)=atI l (j:Int):=by
 rw[bN h,bN (by rw[Rbh];omega),Ubu h]
theorem Mb4.step {t:aY}(ht:eH t=true){x:List Int}(hx:kZ t.n x){i:Nat}{s:SSt}(h:Mb4 t x i s)(hi:i<s.met.length):Mb4 t x (i+1) (Qbg t s i):=by
 have hzm:=at_mem hi;obtain⟨hzr,n4⟩:=h.rch _ hzm;have nq:=(hzr.inst ht hx).1;unfold Qbg;obtain⟨k1,k2,⟨m,k3⟩,k4⟩:=Oa7 ht hx (ys:=Nbs t (atI (atI s.met (i:Int)) 0) (atI (atI s.met (i:Int)) 1)) h.toSPre fun y hy=>.step hzr n4 ((Qa1 nq).1 hy).1
 refine⟨k1,by rw[k3,Rbh];omega,fun j hj y hy=>?_⟩;have nu:j<s.met.length:=by omega
 rw[k3,Fbu nu]at hy
 rcases Rbu j i with hji|hji
 ·rcases h.cl j hji y hy with h1|h1
  ·exact .inl (by rw[k3];exact Qb9 _ h1)
  ·exact .inr (k4 y h1)
 ·obtain rfl:j=i:=by omega
  by_cases e:y=atI s.met (j:Int)
  ·exact .inl (by rw[k3,e];exact Qb9 _ hzm)
  ·exact k2 y ((Qa1 nq).2 ⟨hy,e⟩)
theorem Mb4.done {t:aY}(ht:eH t=true){x:List Int}(hx:kZ t.n x){s:SSt}(h:Mb4 t x s.met.length s):s.out=Ia7 t x:=by
 have df:∀ y,Jad t x y->y∈s.met\/y∈s.out:=by
  intro y hy
  induction hy with
  |base=>exact .inl h.base
  | step _ hc hy ih =>
   rcases ih with h1|h1
   ·obtain⟨j,hj,e⟩:=Sby.1 h1
    refine h.cl j hj _ ?_;rw[bN hj,e];exact hy
   ·rw[(h.och _ h1).2]at hc;cases hc
 refine Ba3 h.srt (Ia6 t x) fun y=>?_
 rw[Ka2 ht hx];refine⟨h.och y,fun ⟨h1,h2⟩=>?_⟩
 rcases df y h1 with h3|h3
 ·rw[(h.rch y h3).2]at h2;cases h2
 ·exact h3
theorem SPre.len {t:aY}(ht:eH t=true){x:List Int}(hx:kZ t.n x){s:SSt}(h:SPre t x s):s.met.length<=30/\s.out.length<=30:=by
 have h1:=Gau (bL ht) h.nd fun y hy=>(h.rch y hy).1.inst ht hx
 have h2:=Gau (bL ht) (Ra9 h.srt) fun y hy=>(h.och y hy).1.inst ht hx
 exact⟨h1,h2⟩
noncomputable def Qb3 (t:aY)(x:List Int):Bool:=decide ((0:Int)<((Ia7 t x).length:Nat))
noncomputable def Paq (t:aY):List (List Int):=(Jbe t.rows).filter fun x=>!Qb3 t x
def GOk (G:List (List Int)):Prop:=∀ r∈G,∀ x∈r,InB G x
inductive Rch (G:List (List Int)) (a:Int):Int->Prop
 |refl:Rch G a a
 |step {b c:Int}:Rch G a b->c∈atI G b->Rch G a c
theorem GOk.out {G:List (List Int)}(hg:GOk G){b c:Int}(hb:InB G b)(hc:c∈atI G b):InB G c:=hg _ (jQ hb) c hc
theorem Rch.inb {G:List (List Int)}(hg:GOk G){a b:Int}(ha:InB G a)(h:Rch G a b):InB G b:=by
 induction h with
 |refl=>exact ha
 |step _ hc ih=>exact hg.out ih hc
theorem Rch.trans {G:List (List Int)}{a b c:Int}(h:Rch G a b)(h2:Rch G b c):Rch G a c:=by
 induction h2 with
 |refl=>exact h
 |step _ hc ih=>exact .step ih hc
def nums (n:Nat):List Int:=(Uby n).map fun k:Nat=>(k:Int)
theorem Uab (n:Nat):(nums n).length=n:=by simp[nums]
theorem Gas {n:Nat}{x:Int}:x∈nums n↔0<=x/\x<n:=by
 unfold nums;rw[Sbp];constructor
 ·rintro⟨k,hk,rfl⟩
  rw[Ubj]at hk;omega
 ·rintro⟨h1,h2⟩
  exact⟨x.toNat,Ubj.2 (by omega),by omega⟩
theorem Sak (n:Nat):oO (nums n):=by
 unfold nums oO;rw[List.pairwise_map];exact List.pairwise_lt_range.imp fun {a b} h=>by omega
theorem Fap {l:List Int}(h:oO l):l.Nodup:=by
 unfold oO at h;exact h.imp fun {a b} rz e=>by omega
open Classical in
noncomputable def Mbe (G:List (List Int))(a j:Int):Bool:=decide (Rch G a j)
theorem Ma8 {G:List (List Int)}{a j:Int}:Mbe G a j=true↔Rch G a j:=by
 classical
 unfold Mbe;exact decide_eq_true_iff
noncomputable def Vaz (G:List (List Int))(a:Int):List Int:=(nums G.length).filter (Mbe G a)
theorem Aa7 (G:List (List Int))(a:Int):oO (Vaz G a):=by
 unfold Vaz oO;exact List.Pairwise.filter _ (Sak _)
theorem vG {G:List (List Int)}(hg:GOk G){a j:Int}(ha:InB G a):j∈Vaz G a↔Rch G a j:=by
 unfold Vaz;rw[Tbr,Ma8,Gas];exact⟨fun h=>h.2,fun h=>⟨h.inb hg ha,h⟩⟩
structure GSt where
 marks:List Bool
 todo:List Int
def GSt.left (s:GSt):Nat:=s.todo.length+s.marks.countP fun b=>!b
def gI (s:GSt)(c:Int):GSt:=if atI s.marks c then s else ⟨dK s.marks c true,s.todo++[c]⟩
def gO (G:List (List Int))(s:GSt):GSt:=⟨((atI G (atI s.todo 0)).foldl gI s).marks,((atI G (atI s.todo 0)).foldl gI s).todo.drop 1⟩
structure GPre (G:List (List Int)) (a:Int) (s:GSt):Prop where
 len:s.marks.length=G.length
 rch:∀ j,InB G j->atI s.marks j=true->Rch G a j
 sta:InB G a
 st:atI s.marks a=true
 tm:∀ x∈s.todo,InB G x/\atI s.marks x=true
 cnt:s.left<=G.length
structure GInv (G:List (List Int)) (a:Int) (s:GSt):Prop extends GPre G a s where
 cl:∀ j,InB G j->atI s.marks j=true->j∉s.todo->∀ c∈atI G j,atI s.marks c=true
theorem zG {α:Type}[Inhabited α]{xs:List α}{j k:Int}{x:α}(hj:0<=j)(hk:0<=k)(h:j≠k):atI (dK xs k x) j=atI xs j:=by
 have:k.toNat≠j.toNat:=by omega
 unfold atI dK;rw[Rbi,Rbi,List.getElem?_set_ne this]
theorem Ba5 {α:Type}[Inhabited α]{xs:List α}{k:Int}{x:α}(h:InB xs k):atI (dK xs k x) k=x:=gN.1 h
theorem Ia0:∀ {l:List Bool} {i:Nat},i<l.length->l.getD i default=false->(l.set i true).countP (fun b=>!b)+1=l.countP fun b=>!b
 |[],i,h,_=>by simp at h
 | b :: l, 0, _, h => by
  have hb:b=false:=h;subst hb;simp
 | b :: l, i + 1, h, h2 => by
  have:=Ia0 (l:=l) (i:=i) (by simpa using h) h2;simp only[List.set_cons_succ,List.countP_cons];omega
theorem Ibl {G:List (List Int)}{a:Int}{s:GSt}(h:GPre G a s){c:Int}(hc:InB G c)(hr:Rch G a c) :
  GPre G a (gI s c)/\(∀ j,InB G j->atI s.marks j=true->atI (gI s c).marks j=true)/\atI (gI s c).marks c=true/\(∃ w,(gI s c).todo=s.todo++w)/\(∀ j,InB G j->atI (gI s c).marks j=true->atI s.marks j=true\/j∈(gI s c).todo)/\(gI s c).left=s.left:=by
 unfold gI
 cases hm:atI s.marks c with
 |true=>exact⟨h,fun _ _ hj=>hj,hm,⟨[],by simp⟩,fun _ _ hj=>.inl hj,rfl⟩
 | false =>
  have xa:InB s.marks c:=by unfold InB at hc ⊢;rw[h.len];exact hc
  have se:∀ j,InB G j->atI s.marks j=true->atI (dK s.marks c true) j=true:=by
   intro j hj kq;by_cases e:j=c
   ·subst e;exact Ba5 xa
   ·rw[zG hj.1 hc.1 e];exact kq
  have u9:GSt.left ⟨dK s.marks c true,s.todo++[c]⟩=s.left:=by
   unfold GSt.left dK;have:=Ia0 (l:=s.marks) (i:=c.toNat) xa.lt hm;simp only[Rbh,Rbw,List.length_nil];omega
  simp only[Rbk,if_false];refine⟨⟨by dsimp only;rw[Ba6];exact h.len,fun j hj kq=>?_,h.sta,se a h.sta h.st,fun x hx=>?_,by rw[u9];exact h.cnt⟩,se,Ba5 xa,⟨[c],rfl⟩,fun j hj kq=>?_,u9⟩
  ·by_cases e:j=c
   ·subst e;exact hr
   ·dsimp only at kq
    rw[zG hj.1 hc.1 e]at kq;exact h.rch j hj kq
  ·rcases Rbq.1 hx with hx|hx
   ·exact⟨(h.tm x hx).1,se x (h.tm x hx).1 (h.tm x hx).2⟩
   ·rw[Rbb]at hx
    subst hx;exact⟨hc,Ba5 xa⟩
  ·by_cases e:j=c
   ·subst e;exact .inr (by simp)
   ·try dsimp only at kq
    rw[zG hj.1 hc.1 e]at kq;exact .inl kq
theorem Za9 {G:List (List Int)}{a:Int}:∀ {ys:List Int} {s:GSt},GPre G a s->(∀ c∈ys,InB G c/\Rch G a c) ->
  GPre G a (ys.foldl gI s)/\(∀ j,InB G j->atI s.marks j=true->atI (ys.foldl gI s).marks j=true)/\(∀ c∈ys,atI (ys.foldl gI s).marks c=true)/\(∃ w,(ys.foldl gI s).todo=s.todo++w)/\(∀ j,InB G j->atI (ys.foldl gI s).marks j=true->atI s.marks j=true\/j∈(ys.foldl gI s).todo)/\(ys.foldl gI s).left=s.left
 |[],s,h,_=>⟨h,fun _ _ hj=>hj,fun _ hc=>(by cases hc),⟨[],by simp⟩,fun _ _ hj=>.inl hj,rfl⟩
 | y :: ys, s, h, hy => by
  obtain⟨h1,h2⟩:=hy y Rbr;obtain⟨k1,k2,k3,⟨w1,k4⟩,k5,k6⟩:=Ibl h h1 h2;obtain⟨l1,l2,l3,⟨w2,l4⟩,l5,l6⟩:=Za9 (ys:=ys) k1 fun c hc=>hy c (Rbl _ hc)
  rw[Tbv];refine⟨l1,fun j hj kq=>l2 j hj (k2 j hj kq),fun c hc=>?_,⟨w1++w2,by rw[l4,k4,Rbd]⟩,fun j hj kq=>?_,by rw[l6,k6]⟩
  ·rcases Rbg.1 hc with hc|hc
   ·subst hc;exact l2 c h1 k3
   ·exact l3 c hc
  ·rcases l5 j hj kq with h3|h3
   ·rcases k5 j hj h3 with h4|h4
    ·exact .inl h4
    ·exact .inr (by rw[l4];exact Qb9 _ h4)
   ·exact .inr h3
theorem GInv.step {G:List (List Int)}(hg:GOk G){a:Int}{s:GSt}(h:GInv G a s)(hw:s.todo≠[]):GInv G a (gO G s)/\(gO G s).left+1=s.left/\GPre G a ((atI G (atI s.todo 0)).foldl gI s):=by
 have hb:InB s.todo 0:=by
  have:=List.length_pos_iff.2 hw;unfold InB;omega
 obtain⟨z1,z2⟩:=h.tm _ (jQ hb);have zr:=h.rch _ z1 z2;have zf:∀ c∈atI G (atI s.todo 0),InB G c/\Rch G a c:=fun c hc=>⟨hg.out z1 hc,.step zr hc⟩
 obtain⟨l1,l2,l3,⟨w,l4⟩,l5,l6⟩:=Za9 h.toGPre zf
 obtain⟨t,ht⟩:∃ t,s.todo=atI s.todo 0::t:=by
  cases e:s.todo with
  |nil=>exact absurd e hw
  |cons x t=>exact⟨t,rfl⟩
 unfold gO;generalize atI s.todo 0=z at *;generalize (atI G z).foldl gI s=u at *;rw[ht,List.cons_append]at l4
 have a2h:GSt.left ⟨u.marks,u.todo.drop 1⟩+1=s.left:=by
  rw[<- l6];unfold GSt.left;rw[l4];simp only[List.drop_succ_cons,List.drop_zero,Rbw];omega
 refine⟨⟨⟨l1.len,l1.rch,l1.sta,l1.st,fun x hx=>l1.tm x (Sbx hx),by have:=h.cnt;omega⟩,fun j hj kq hj3 c hc=>?_⟩,a2h,l1⟩;dsimp only at kq hj3 ⊢;by_cases e:j=z
 ·subst e
  exact l3 c hc
 ·have hju:j∉u.todo:=by
   rw[l4]at hj3 ⊢;intro hm
   rcases Rbg.1 hm with h1|h1
   ·exact e h1
   ·exact hj3 (by simpa using h1)
  rcases l5 j hj kq with h1|h1
  ·have h2:j∉s.todo:=fun hm=>hju (by
    rw[ht]at hm;rw[l4]
    rcases Rbg.1 hm with h1|h1
    ·exact absurd h1 e
    ·exact Rbl _ (Qb9 _ h1))
   exact l2 c (hg.out hj hc) (h.cl j hj h1 h2 c hc)
  ·exact absurd h1 hju
theorem GInv.done {G:List (List Int)}(hg:GOk G){a:Int}{s:GSt}(h:GInv G a s)(hw:s.todo=[]){j:Int}(hj:InB G j):atI s.marks j=Mbe G a j:=by
 have df:∀ b,Rch G a b->InB G b/\atI s.marks b=true:=by
  intro b hb
  induction hb with
  |refl=>exact⟨h.sta,h.st⟩
  |step _ hc ih=>exact⟨hg.out ih.1 hc,h.cl _ ih.1 ih.2 (by rw[hw];simp) _ hc⟩
 rw[Ubs,Ma8];exact⟨h.rch j hj,fun hr=>(df j hr).2⟩
structure HSt where
 met:List Int
 que:List Int
def hI (s:HSt)(c:Int):HSt:=if Fa0 s.que c then s else ⟨Ebo s.met c,s.que++[c]⟩
theorem zQ {xs:List Int}{n:Int}:Fa0 xs n=true↔n∈xs:=by
 unfold Fa0;rw[Tbx];constructor
 ·rintro⟨x,hx,e⟩
  rw[<- beq_iff_eq.1 e];exact hx
 ·exact fun h=>⟨n,h,by simp⟩
structure HPre (G:List (List Int)) (a:Int) (s:HSt):Prop where
 rch:∀ x∈s.que,Rch G a x
 nd:s.que.Nodup
 srt:oO s.met
 eq:∀ x,x∈s.met↔x∈s.que
 sta:InB G a
 st:a∈s.que
structure Mb7 (G:List (List Int)) (a:Int) (i:Nat) (s:HSt):Prop extends HPre G a s where
 le:i<=s.que.length
 cl:∀ k:Nat,k<i->∀ c∈atI G (atI s.que (k:Int)),c∈s.que
theorem HPre.len {G:List (List Int)}(hg:GOk G){a:Int}{s:HSt}(h:HPre G a s):s.que.length<=G.length/\s.met.length<=G.length:=by
 have h1:∀ x∈s.que,x∈nums G.length:=fun x hx=>Gas.2 ((h.rch x hx).inb hg h.sta)
 have h2:=uI h.nd h1;have h3:=uI (Fap h.srt) fun x hx=>h1 x ((h.eq x).1 hx)
 rw[Uab]at h2 h3;exact⟨h2,h3⟩
theorem Ibg {G:List (List Int)}{a:Int}{s:HSt}(h:HPre G a s){c:Int}(hr:Rch G a c):HPre G a (hI s c)/\c∈(hI s c).que/\∃ w,(hI s c).que=s.que++w:=by
 unfold hI
 cases hm:Fa0 s.que c with
 |true=>exact⟨h,zQ.1 hm,[],by simp⟩
 | false =>
  have hn:c∉s.que:=fun e=>by rw[zQ.2 e]at hm;cases hm
  simp only[Rbk,if_false];refine⟨⟨fun x hx=>?_,?_,Hav h.srt,fun x=>?_,h.sta,Qb9 _ h.st⟩,by simp,[c],rfl⟩
  ·rcases Rbq.1 hx with hx|hx
   ·exact h.rch x hx
   ·rw[Rbb.1 hx];exact hr
  ·exact List.nodup_append.2 ⟨h.nd,by simp,fun x hx y hy e=>hn (by rw[Rbb]at hy;rw[<- hy,<- e];exact hx)⟩
  ·rw[Nab,h.eq]
   simp
theorem Za5 {G:List (List Int)}{a:Int}:∀ {ys:List Int} {s:HSt},HPre G a s->(∀ c∈ys,Rch G a c)->HPre G a (ys.foldl hI s)/\(∀ c∈ys,c∈(ys.foldl hI s).que)/\∃ w,(ys.foldl hI s).que=s.que++w
 |[],s,h,_=>⟨h,fun _ hc=>(by cases hc),[],by simp⟩
 | y :: ys, s, h, hy => by
  obtain⟨k1,k2,w1,k3⟩:=Ibg h (hy y Rbr);obtain⟨l1,l2,w2,l3⟩:=Za5 (ys:=ys) k1 fun c hc=>hy c (Rbl _ hc)
  rw[Tbv];refine⟨l1,fun c hc=>?_,w1++w2,by rw[l3,k3,Rbd]⟩
  rcases Rbg.1 hc with hc|hc
  ·subst hc
   rw[l3];exact Qb9 _ k2
  ·exact l2 c hc
theorem Mb7.step {G:List (List Int)}{a:Int}{i:Nat}{s:HSt}(h:Mb7 G a i s)(hi:i<s.que.length):Mb7 G a (i+1) ((atI G (atI s.que (i:Int))).foldl hI s):=by
 have hz:=h.rch _ (at_mem hi);obtain⟨l1,l2,w,l3⟩:=Za5 h.toHPre (ys:=atI G (atI s.que (i:Int))) fun c hc=>.step hz hc
 generalize he:(atI G (atI s.que (i:Int))).foldl hI s=u at *
 have ig:∀ k:Nat,k<s.que.length->atI u.que (k:Int)=atI s.que (k:Int):=by
  intro k hk;rw[l3,bN (by rw[Rbh];omega),bN hk,Ubu hk]
 refine⟨l1,by rw[l3,Rbh];omega,fun k hk c hc=>?_⟩;rw[ig k (by omega)]at hc
 rcases Rbu k i with h1|h1
 ·rw[l3]
  exact Qb9 _ (h.cl k h1 c hc)
 ·obtain rfl:k=i:=by omega
  exact l2 c hc
theorem Mb7.done {G:List (List Int)}(hg:GOk G){a:Int}{s:HSt}(h:Mb7 G a s.que.length s):s.met=Vaz G a:=by
 refine Eaf h.srt (Aa7 _ _) fun x=>?_
 rw[h.eq,vG hg h.sta];refine⟨h.rch x,fun hr=>?_⟩
 induction hr with
 |refl=>exact h.st
 | step _ hc ih =>
  obtain⟨k,hk,e⟩:=Sby.1 ih;exact h.cl k hk _ (by rw[bN hk,e];exact hc)
noncomputable def Va8 (G:List (List Int))(a:Int):List Int:=(Vaz G a).filter fun j=>Mbe G j a
theorem pV {G:List (List Int)}(hg:GOk G){a j:Int}(ha:InB G a):j∈Va8 G a↔Rch G a j/\Rch G j a:=by
 unfold Va8;rw[Tbr,Ma8,vG hg ha]
theorem Iah (G:List (List Int))(a:Int):oO (Va8 G a):=List.Pairwise.filter _ (Aa7 G a)
theorem Za7 {G:List (List Int)}(hg:GOk G){a:Int}(ha:InB G a):a∈Va8 G a:=(pV hg ha).2 ⟨.refl,.refl⟩
theorem Za8 {G:List (List Int)}(hg:GOk G){a j:Int}(ha:InB G a)(hj:j∈Va8 G a):Va8 G j=Va8 G a:=by
 obtain⟨h1,h2⟩:=(pV hg ha).1 hj;refine Eaf (Iah _ _) (Iah _ _) fun x=>?_
 rw[pV hg (h1.inb hg ha),pV hg ha];exact⟨fun h=>⟨h1.trans h.1,h.2.trans h2⟩,fun h=>⟨h2.trans h.1,h.2.trans h1⟩⟩
noncomputable def Gad (G:List (List Int)):List (List Int):=((nums G.length).filter fun i=>atI (Va8 G i) 0==i).map (Va8 G)
theorem Eb5 {l:List Int}(h:l≠[]):atI l 0∈l:=jQ (by have:=List.length_pos_iff.2 h;unfold InB;omega)
theorem Daq {G:List (List Int)}{C:List Int}(h:C∈Gad G):∃ a,InB G a/\C=Va8 G a/\atI C 0=a:=by
 unfold Gad at h;obtain⟨a,ha,rfl⟩:=Sbp.1 h;obtain⟨h1,h2⟩:=Tbr.1 ha;exact⟨a,Gas.1 h1,rfl,beq_iff_eq.1 h2⟩
theorem Wan {G:List (List Int)}(hg:GOk G){j:Int}(hj:InB G j):∃ C∈Gad G,j∈C:=by
 have hs:=Za7 hg hj;have hm:=Eb5 (List.ne_nil_of_mem hs);have hi:=((pV hg hj).1 hm).1.inb hg hj;have he:=Za8 hg hj hm;refine⟨Va8 G (atI (Va8 G j) 0),Sbp.2 ⟨_,Tbr.2 ⟨Gas.2 hi,?_⟩,rfl⟩,by rw[he];exact hs⟩;rw[he];simp
theorem Wam (G:List (List Int)):(Gad G).length<=G.length:=by
 unfold Gad;rw[Rb4];have:=List.length_filter_le (fun i=>atI (Va8 G i) 0==i) (nums G.length);rw[Uab]at this;exact this
structure CSt where
 rest:List (List Int)
 out:List (List Int)
structure Bbo (G:List (List Int)) (s:CSt):Prop where
 nd:(s.rest++s.out).Nodup
 mem:∀ C,C∈s.rest++s.out↔C∈Gad G
 cl:∀ C∈s.out,∀ j∈C,∀ k,Rch G j k->∃ D∈s.out,k∈D
def Ibq (out:List (List Int))(j:Int):Bool:=out.any fun D=>Fa0 D j
theorem Qaz {out:List (List Int)}{j:Int}:Ibq out j=true↔∃ D∈out,j∈D:=by
 unfold Ibq;rw[Tbx];constructor
 ·rintro⟨D,h1,h2⟩;exact⟨D,h1,zQ.1 h2⟩
 ·rintro⟨D,h1,h2⟩;exact⟨D,h1,zQ.2 h2⟩
noncomputable def Jao (G:List (List Int))(out:List (List Int))(C:List Int):Bool:=(Vaz G (atI C 0)).all fun j=>Ibq out j||Fa0 C j
theorem Ial {G:List (List Int)}(hg:GOk G){out:List (List Int)}{C:List Int}(hC:InB G (atI C 0)):Jao G out C=true↔∀ j,Rch G (atI C 0) j->(∃ D∈out,j∈D)\/j∈C:=by
 unfold Jao;rw[Rb6];constructor
 ·intro h j hj
  have:=h j ((vG hg hC).2 hj);rw[Sbv,Qaz,zQ]at this;exact this
 ·intro h j hj
  rw[Sbv,Qaz,zQ];exact h j ((vG hg hC).1 hj)
theorem Bbo.sub {G:List (List Int)}{s:CSt}(h:Bbo G s){C:List Int}(hC:C∈s.rest):C∈Gad G:=(h.mem C).1 (Qb9 _ hC)
theorem Aba {G:List (List Int)}(hg:GOk G){s:CSt}(h:Bbo G s):∀ (n:Nat) (C:List Int),C∈s.rest->(Vaz G (atI C 0)).length<=n->∃ D∈s.rest,Jao G s.out D=true
 | n, C, hC, hn => by
  obtain⟨a,ha,he,xp⟩:=Daq (h.sub hC);have yc:InB G (atI C 0):=by rw[xp];exact ha
  by_cases hf:Jao G s.out C=true
  ·exact⟨C,hC,hf⟩
  rw[Ial hg yc]at hf;obtain⟨j,hf⟩:=Classical.not_forall.1 hf;obtain⟨hj,hf⟩:=Classical.not_imp.1 hf;rw[not_or]at hf;obtain⟨D,hD,hjD⟩:=Wan hg (hj.inb hg yc)
  have hDr:D∈s.rest:=by
   rcases Rbq.1 ((h.mem D).2 hD) with h1|h1
   ·exact h1
   ·exact absurd ⟨D,h1,hjD⟩ hf.1
  obtain⟨b,hb,hDe,heb⟩:=Daq hD;have hD0:InB G (atI D 0):=by rw[heb];exact hb
  have hjb:=(pV hg hb).1 (by rw[<- hDe];exact hjD);rw[<- heb]at hjb
  have hna:¬ Rch G (atI D 0) (atI C 0):=fun hr=>hf.2 (by
   rw[he,pV hg ha,<- xp];exact⟨hj,hjb.2.trans hr⟩)
  have bh:(Vaz G (atI D 0)).length<(Vaz G (atI C 0)).length:=by
   have fm:atI C 0∈Vaz G (atI C 0):=(vG hg yc).2 .refl
   have h1:=uI (l:=Vaz G (atI D 0)) (m:=(Vaz G (atI C 0)).erase (atI C 0)) (Fap (Aa7 _ _)) fun x hx=>by
    have qp:=(vG hg hD0).1 hx;refine (List.mem_erase_of_ne fun e=>hna ?_).2 ((vG hg yc).2 ((hj.trans hjb.2).trans qp));rw[<- e];exact qp
   have h2:=List.length_erase_of_mem fm;have h3:=List.length_pos_of_mem fm;omega
  match n with
  |0=>omega
  |n+1=>exact Aba hg h n D hDr (by omega)
noncomputable def Ua8 (G:List (List Int))(s:CSt):Nat:=(ixF (Jao G s.out) s.rest).toNat
noncomputable def cO (G:List (List Int))(s:CSt):CSt:=⟨s.rest.take (Ua8 G s)++s.rest.drop (Ua8 G s+1),s.out++[atI s.rest (Ua8 G s)]⟩
theorem Bbo.top {G:List (List Int)}(hg:GOk G){s:CSt}(h:Bbo G s)(hr:s.rest≠[]):Ua8 G s<s.rest.length/\ixF (Jao G s.out) s.rest=(Ua8 G s:Int)/\Jao G s.out (atI s.rest (Ua8 G s))=true/\∀ k:Nat,k<Ua8 G s->Jao G s.out (atI s.rest (k:Int))=false:=by
 obtain⟨C,hC⟩:=List.exists_mem_of_ne_nil _ hr;obtain⟨D,hD,hf⟩:=Aba hg h _ C hC (Rbt _);obtain⟨k,hk,rfl⟩:=Sby.1 hD;have h0:0<=ixF (Jao G s.out) s.rest:=Mbs hk (by rw[bN hk];exact hf);obtain⟨h1,h2,h3⟩:=Eb2 h0;have e:ixF (Jao G s.out) s.rest=(Ua8 G s:Int):=by unfold Ua8;omega
 rw[e]at h1 h2;refine⟨aN.1 h1,e,h2,fun k hk=>h3 k ?_⟩;rw[e];omega
theorem Ibu {l out:List (List Int)}{i:Nat}(h:i<l.length):((l.take i++l.drop (i+1))++(out++[atI l (i:Int)])).Perm (l++out):=by
 have e:l=l.take i++atI l (i:Int)::l.drop (i+1):=by
  rw[bN h,<- Sb8 h,Tbh]
 conv=>rhs;rw[e]
 generalize l.take i=A;generalize l.drop (i+1)=B;generalize atI l (i:Int)=C;rw[List.perm_iff_count];intro x;simp only[List.count_append,List.count_cons,List.count_nil];omega
theorem Bbo.step {G:List (List Int)}(hg:GOk G){s:CSt}(h:Bbo G s)(hr:s.rest≠[]):Bbo G (cO G s)/\(cO G s).rest.length+1=s.rest.length:=by
 obtain⟨h1,h2,h3,-⟩:=h.top hg hr;have hp:=Ibu (out:=s.out) h1;have hCr:atI s.rest (Ua8 G s:Int)∈s.rest:=at_mem h1;unfold cO;generalize Ua8 G s=i at *;refine⟨⟨hp.nodup_iff.2 h.nd,fun C=>by rw[hp.mem_iff];exact h.mem C,fun C hC j hj k hk=>?_⟩,by simp only[Rbh,Rbv,Sbj];omega⟩;dsimp only at hC ⊢
 rcases Rbq.1 hC with hC|hC
 ·obtain⟨D,hD,hkD⟩:=h.cl C hC j hj k hk
  exact⟨D,Qb9 _ hD,hkD⟩
 ·rw[Rbb]at hC
  subst hC;obtain⟨a,ha,he,xp⟩:=Daq (h.sub hCr);have yc:InB G (atI (atI s.rest (i:Int)) 0):=by rw[xp];exact ha
  have hja:=(pV hg ha).1 (by rw[<- he];exact hj)
  rcases (Ial hg yc).1 h3 k (by rw[xp];exact hja.1.trans hk) with ⟨D,hD,hkD⟩|hkC
  ·exact⟨D,Qb9 _ hD,hkD⟩
  ·exact⟨_,Rbc _ (Rbb.2 rfl),hkC⟩
theorem Uam {α:Type}[Inhabited α]{xs:List α}{p:α->Bool}{k:Nat}(h:k<xs.length):(xs.take (k+1)).filter p=(xs.take k).filter p++if p (atI xs (k:Int)) then [atI xs (k:Int)] else []:=by
 rw[<- take_at h,List.filter_append];congr 1;cases hp:p (atI xs (k:Int))
 ·rw[List.filter_cons_of_neg (by rw[hp];simp)];rfl
 ·rw[List.filter_cons_of_pos hp];rfl
theorem Bbo.len {G:List (List Int)}{s:CSt}(h:Bbo G s):s.rest.length+s.out.length<=G.length:=by
 have h1:=uI h.nd (m:=Gad G) fun C hC=>(h.mem C).1 hC
 rw[Rbh]at h1;exact Rbz h1 (Wam G)
theorem Vay {t:aY}{x:List Int}(h:x∈Paq t):x∈Jbe t.rows:=by
 unfold Paq at h;exact (Tbr.1 h).1
theorem Hau {t:aY}(ht:eH t=true){x:List Int}(h:x∈Paq t):kZ t.n x/\(eY t (atI x 0) (atI x 1)).state=3/\x=[atI x 0,atI x 1]/\InB x 0/\InB x 1:=by
 obtain⟨a,b,h1,h2,h3⟩:=Aby ht (Vay h);exact⟨⟨h1,h2⟩,h3,(Aa1 h1).symm,a,b⟩
def Hb8 (t:aY)(x:List Int):Int:=100*(eY t (atI x 0) (atI x 1)).attr.seq+10*atI x 0+atI x 1
theorem Yax {n:Int}{r:aZ}(h:rowOk n r=true):0<=r.attr.seq/\r.attr.seq<=999:=by
 unfold rowOk at h;simp only[Qb6]at h;obtain⟨-,h⟩:=h;split at h
 ·simp only[Qb6,decide_eq_true_eq]at h
  rw[h.2];unfold none0;simp
 ·simp only[Qb6]at h
  have:=h.2;unfold fF inR at this;simp only[Qb6,decide_eq_true_eq]at this;omega
theorem Uai {t:aY}(ht:eH t=true){x:List Int}(h:kZ t.n x):0<=(eY t (atI x 0) (atI x 1)).attr.seq/\(eY t (atI x 0) (atI x 1)).attr.seq<=999/\0<=atI x 0/\atI x 0<=4/\1<=atI x 1/\atI x 1<=6:=by
 have h1:=Yax (Aa0 ht h.2);have h2:=kG h.2;have h3:=aV (bL ht);omega
theorem Ebz {t:aY}(ht:eH t=true){x y:List Int}(hx:kZ t.n x)(hy:kZ t.n y)(h:Hb8 t x=Hb8 t y):x=y:=by
 have h1:=Uai ht hx;have h2:=Uai ht hy;unfold Hb8 at h;rw[<- Aa1 hx.1,<- Aa1 hy.1];unfold toL prL;dsimp only;have e1:atI x 0=atI y 0:=by omega
 have e2:atI x 1=atI y 1:=by omega
 rw[e1,e2]
theorem Eb8 {n:Int}{l:List aZ}{no:Int}(h:no<=l.length):ext n l no=l:=by
 unfold ext;rw[show (no-l.length).toNat=0 by omega,List.replicate_zero,List.append_nil]
def Pb4 (rd:List (List Int))(s:aY)(k:Nat)(i:Nat):aY:=if decide (Abf rd [(k:Int),(i:Int)+1]<0) then wY s (k:Int) ((i:Int)+1) (row0 s.n) else s
def Nbt (rd:List (List Int))(k:Nat):Nat->aY->aY
 |0,s=>s
 |m+1,s=>Pb4 rd (Nbt rd k m s) k m
def Pb3 (rd:List (List Int))(t:aY):Nat->aY
 |0=>t
 |k+1=>Nbt rd k (atI t.rows (k:Int)).length (Pb3 rd t k)
theorem Qao {rd:List (List Int)}{x:List Int}:Abf rd x<0↔x∉rd:=by
 have h:=eB (fun y=>decide (x=y)) rd;constructor
 ·intro h1 hm
  have:rd.any (fun y=>decide (x=y))=true:=Tbx.2 ⟨x,hm,by simp⟩;rw[this,decide_eq_true_eq]at h;unfold Abf at h1;omega
 ·intro hm
  have:rd.any (fun y=>decide (x=y))=false:=by
   rw[Tbe];intro y hy e;exact hm (by rw[of_decide_eq_true e];exact hy)
  rw[this,decide_eq_false_iff_not]at h;unfold Abf;omega
structure Wa1 (rd:List (List Int)) (t s:aY) (k m:Nat):Prop where
 ok:eH s=true
 n:s.n=t.n
 len:∀ j:Nat,(atI s.rows (j:Int)).length=(atI t.rows (j:Int)).length
 row:∀ rep no,inst t.n rep no=true->eY s rep no=if (rep<k\/(rep=k/\no<=m))/\[rep,no]∉rd then row0 t.n else eY t rep no
theorem Wa1.rowsLen {rd:List (List Int)}{t s:aY}{k m:Nat}(ht:eH t=true)(h:Wa1 rd t s k m):s.rows.length=t.rows.length:=by
 have h1:=jR ht;have h2:=jR h.ok;have h3:=h.n;omega
theorem Wa1.stepS {rd:List (List Int)}{t s:aY}{k m:Nat}(ht:eH t=true)(h:Wa1 rd t s k m)(hk:k<t.rows.length)(hm:m<(atI t.rows (k:Int)).length):Wa1 rd t (Pb4 rd s k m) k (m+1):=by
 have hlen:=jR ht;have h6:=(qH ht (at_mem hk)).1
 have hi:inst t.n (k:Int) ((m:Int)+1)=true:=by
  unfold inst inR;simp only[Qb6,decide_eq_true_eq];omega
 have gA:inst s.n (k:Int) ((m:Int)+1)=true:=by rw[h.n];exact hi
 unfold Pb4;cases hf:decide (Abf rd [(k:Int),(m:Int)+1]<0)
 ·have jc:[(k:Int),(m:Int)+1]∈rd:=by
   rw[decide_eq_false_iff_not,Qao]at hf;exact Classical.not_not.1 hf
  refine⟨h.ok,h.n,h.len,fun rep no hr=>?_⟩;simp only[Rbk,if_false];rw[h.row rep no hr];have h0:=kG hr;by_cases e:rep=(k:Int)/\no=(m:Int)+1
  ·obtain⟨e1,e2⟩:=e
   subst e1;subst e2
   rw[if_neg (fun hh=>hh.2 jc),if_neg (fun hh=>hh.2 jc)]
  ·have:(rep<(k:Int)\/rep=(k:Int)/\no<=(m:Int))↔(rep<(k:Int)\/rep=(k:Int)/\no<=((m+1:Nat):Int)):=by omega
   simp only[this]
 ·have u5:[(k:Int),(m:Int)+1]∉rd:=Qao.1 (of_decide_eq_true hf)
  simp only[if_true];refine⟨Wa4 h.ok gA (by rw[h.n];exact Yaz (bL ht)),by unfold wY;exact h.n,fun j=>?_,fun rep no hr=>?_⟩
  ·have nx:InB s.rows (k:Int):=aN.2 (by rw[h.rowsLen ht];exact hk)
   unfold wY;dsimp only;by_cases e:j=k
   ·subst e
    rw[Ba5 nx,Ba6,Eb8 (by rw[h.len];omega),h.len]
   ·rw[zG (by omega) (by omega) (by omega),h.len]
  ·rw[Wa5 h.ok gA (by rw[h.n];exact hr),h.row rep no hr,h.n]
   have h0:=kG hr;by_cases e:rep=(k:Int)/\no=(m:Int)+1
   ·obtain⟨e1,e2⟩:=e
    subst e1;subst e2
    rw[if_pos ⟨rfl,rfl⟩,if_pos ⟨.inr ⟨rfl,by omega⟩,u5⟩]
   ·rw[if_neg e]
    have:(rep<(k:Int)\/rep=(k:Int)/\no<=(m:Int))↔(rep<(k:Int)\/rep=(k:Int)/\no<=((m+1:Nat):Int)):=by omega
    simp only[this]
theorem Wa1.stepN {rd:List (List Int)}{t s:aY}{k:Nat}(ht:eH t=true)(h:Wa1 rd t s k 0)(hk:k<t.rows.length):∀ m,m<=(atI t.rows (k:Int)).length->Wa1 rd t (Nbt rd k m s) k m
 |0,_=>h
 |m+1,hm=>(Wa1.stepN ht h hk m (by omega)).stepS ht hk (by omega)
theorem Wa1.all {rd:List (List Int)}{t:aY}(ht:eH t=true)(jq:∀ x∈rd,x∈Jbe t.rows):∀ k,k<=t.rows.length->Wa1 rd t (Pb3 rd t k) k 0
 | 0, _ => by
  refine⟨ht,rfl,fun _=>rfl,fun rep no hr=>?_⟩;have h0:=kG hr;rw[if_neg (by omega)];rfl
 | k + 1, hk => by
  have h:=(Wa1.all ht jq k (by omega)).stepN ht (by omega) (atI t.rows (k:Int)).length (Rbt _);refine⟨h.ok,h.n,h.len,fun rep no hr=>?_⟩;show eY (Nbt rd k _ (Pb3 rd t k)) rep no=_
  rw[h.row rep no hr];have h0:=kG hr;by_cases e:rep=(k:Int)/\¬ no<=((atI t.rows (k:Int)).length:Int)
  ·obtain⟨e1,e2⟩:=e
   have er:eY t rep no=row0 t.n:=by
    unfold eY;rw[e1,if_neg e2]
   rw[er,ite_self,ite_self]
  ·have:(rep<(k:Int)\/rep=(k:Int)/\no<=((atI t.rows (k:Int)).length:Int))↔(rep<((k+1:Nat):Int)\/rep=((k+1:Nat):Int)/\no<=((0:Nat):Int)):=by omega
   simp only[this]
section
variable {T:Nat->Ent} {β:Type}
end
def Qbu (r:aZ)(k no:Int):Bool:=(r.state==3)&&decide (no<=atI r.attr.deps k)
def Qbv (t:aY)(k no:Int):Bool:=decide (no<=((atI t.rows k).length:Int))||t.rows.any fun l=>l.any fun r=>Qbu r k no
def Qbf (x:Tae)(k:Int):aY:=(atI x.reps k).table
def Zad (x:Tae)(ms:List Int)(y:List Int):Bool:=ms.any fun k=>!((eY (Qbf x k) (atI y 0) (atI y 1)).state==3)
def Pbw (x:Tae)(ms:List Int)(k no:Int):Bool:=ms.any fun m=>Qbv (Qbf x m) k no
def Nbo (x:Tae)(ms:List Int):List (List Int):=(wG x.reps.length).filter fun y=>Pbw x ms (atI y 0) (atI y 1)&&Zad x ms y
theorem Ta4 {xs:List Int}{lo hi:Int}(h:Haq xs lo hi=true):∀ k∈xs,lo<=k/\k<=hi:=by
 intro k hk;unfold Haq at h;rw[jB]at h;obtain⟨i,hi,rfl⟩:=List.getElem_of_mem hk;have:=h i hi;simp only[Qb6]at this;rw[bN hi]at this;exact Ibd.1 this.1
theorem Ebq {x:Tae}{ms:List Int}{y:List Int}:y∈Nbo x ms↔kZ x.reps.length y/\Pbw x ms (atI y 0) (atI y 1)=true/\Zad x ms y=true:=by
 unfold Nbo;rw[Tbr,Ban,Qb6]
theorem Zac (x:Tae)(ms:List Int):yT (Nbo x ms):=List.Pairwise.filter _ (Gaf _)
structure Cov (n:Nat) (ms:List Int) (S:Int->Int->Prop):Prop where
 len:ms.length=n
 rng:∀ x∈ms,0<=x/\x<=6
 iff:∀ j no:Int,0<=j->j<n->1<=no->(no<=atI ms j↔S j no)
theorem Cov.congr {n:Nat}{ms:List Int}{S S':Int->Int->Prop}(h:Cov n ms S)(hs:∀ j no:Int,0<=j->j<n->1<=no->(S j no↔S' j no)):Cov n ms S' :=
 ⟨h.len,h.rng,fun j no h0 h1 h2=>(h.iff j no h0 h1 h2).trans (hs j no h0 h1 h2)⟩
structure Mb6 (x:Tae) (ms:List Int) (S:List Int->Prop) (out:List (List Int)):Prop where
 nodup:out.Nodup
 iff:∀ y,y∈out↔S y/\Zad x ms y=true
 inst:∀ y∈out,kZ x.reps.length y
theorem Mb6.done {x:Tae}{ms:List Int}{out:List (List Int)}(h:Mb6 x ms (fun y=>kZ x.reps.length y/\Pbw x ms (atI y 0) (atI y 1)=true) out):(Pac id (out.map prL)).map toL=Nbo x ms:=by
 obtain⟨h1,h2⟩:=Hao (l:=out) (fun y hy=>(h.inst y hy).1) h.nodup;refine Ba3 h1 (Zac x ms) fun y=>?_
 rw[h2,h.iff,Ebq,and_assoc]
theorem Mb6.step {x:Tae}{ms:List Int}{S:List Int->Prop}{out:List (List Int)}(h:Mb6 x ms S out){y:List Int}(hy:kZ x.reps.length y) :
  Mb6 x ms (fun z=>S z\/z=y) (if Zad x ms y&&!(out.any fun z=>decide (y=z)) then out++[y] else out):=by
 cases ho:Zad x ms y with
 | false =>
  simp only[Sb4,Rbk,if_false];refine⟨h.nodup,fun z=>?_,h.inst⟩;rw[h.iff];constructor
  ·rintro⟨h1,h2⟩;exact⟨.inl h1,h2⟩
  ·rintro⟨h1|rfl,h2⟩
   ·exact⟨h1,h2⟩
   ·rw[ho]at h2;cases h2
 | true =>
  rw[Sbk]
  cases ha:out.any fun z=>decide (y=z) with
  | true =>
   simp only[Bool.not_true,Rbk,if_false];have hm:=Ea9.1 ha;refine⟨h.nodup,fun z=>?_,h.inst⟩;rw[h.iff];constructor
   ·rintro⟨h1,h2⟩;exact⟨.inl h1,h2⟩
   ·rintro⟨h1|rfl,h2⟩
    ·exact⟨h1,h2⟩
    ·exact (h.iff z).1 hm
  | false =>
   simp only[Bool.not_false,if_true];have hm:y∉out:=fun hc=>by rw[Ea9.2 hc]at ha;cases ha
   refine⟨uH h.nodup hm,fun z=>?_,fun z hz=>?_⟩
   ·rw[Rbq,h.iff,Rbb]
    constructor
    ·rintro (⟨h1,h2⟩|rfl)
     ·exact⟨.inl h1,h2⟩
     ·exact⟨.inr rfl,ho⟩
    ·rintro⟨h1|rfl,h2⟩
     ·exact .inl ⟨h1,h2⟩
     ·exact .inr rfl
   ·rcases Rbq.1 hz with hz|hz
    ·exact h.inst z hz
    ·rw[Rbb.1 hz];exact hy
def Bef {α:Type}(l:List α)(x y:α):Prop:=∃ A B,l=A++B/\x∈A/\y∈B
theorem Bef.idx {α:Type}{l:List α}{x y:α}:Bef l x y↔∃ i j,∃ hi:i<l.length,∃ hj:j<l.length,i<j/\l[i]=x/\l[j]=y:=by
 constructor
 ·rintro⟨A,B,rfl,hx,hy⟩
  obtain⟨i,hi,rfl⟩:=Sby.1 hx;obtain⟨j,hj,rfl⟩:=Sby.1 hy;refine⟨i,A.length+j,by rw[Rbh];omega,by rw[Rbh];omega,by omega,?_,?_⟩
  ·rw[Ubu hi]
  ·rw[List.getElem_append_right (by omega)]
   simp
 ·rintro⟨i,j,hi,hj,qx,rfl,rfl⟩
  refine⟨l.take (i+1),l.drop (i+1),(Tbh _ _).symm,?_,?_⟩
  ·exact Sby.2 ⟨i,by rw[Rbv];omega,by rw[List.getElem_take]⟩
  ·exact Sby.2 ⟨j-(i+1),by rw[Sbj];omega,by rw[List.getElem_drop];congr 1;omega⟩
theorem Bef.map {α β:Type}{l:List α}{f:α->β}{x y:α}(h:Bef l x y):Bef (l.map f) (f x) (f y):=by
 obtain⟨A,B,rfl,hx,hy⟩:=h;exact⟨A.map f,B.map f,by rw[Tb3],Sb1 hx,Sb1 hy⟩
def Qba (G:List (List Int))(out:List (List Int)):Prop:=∀ A C B,out=A++C::B->∀ j∈C,∀ k,Rch G j k->(∃ D∈A,k∈D)\/k∈C
theorem Qba.step {G:List (List Int)}(hg:GOk G){s:CSt}(h:Bbo G s)(hr:s.rest≠[])(hp:Qba G s.out):Qba G (cO G s).out:=by
 obtain⟨h1,h2,h3,-⟩:=h.top hg hr;have hCr:atI s.rest (Ua8 G s:Int)∈s.rest:=at_mem h1;unfold cO;dsimp only;generalize atI s.rest (Ua8 G s:Int)=C0 at *;intro A C B e j hj k hk
 rcases List.eq_nil_or_concat B with hB|⟨B',b,hB⟩
 ·subst hB
  obtain⟨e1,e2⟩:=List.append_inj' e rfl;rw[Sbz]at e2;obtain⟨rfl,-⟩:=e2;subst e1;obtain⟨a,ha,he,xp⟩:=Daq (h.sub hCr);have yc:InB G (atI C0 0):=by rw[xp];exact ha
  have hja:=(pV hg ha).1 (by rw[<- he];exact hj);exact (Ial hg yc).1 h3 k (by rw[xp];exact hja.1.trans hk)
 ·rw[List.concat_eq_append]at hB
  subst hB;have e':s.out++[C0]=(A++C::B')++[b]:=by rw[e];simp
  obtain⟨e1,-⟩:=List.append_inj' e' rfl;exact hp A C B' e1 j hj k hk
def Nbw (t:aY)(x y:List Int):Prop:=Jad t y x/\(¬ Jad t x y\/Hb8 t x<Hb8 t y)
theorem Nbw.total {t:aY}(ht:eH t=true){x y:List Int}(hx:x∈Paq t)(hy:y∈Paq t)(dz:x≠y)(h:Jad t x y\/Jad t y x):Nbw t x y\/Nbw t y x:=by
 unfold Nbw;by_cases h1:Jad t x y
 ·by_cases h2:Jad t y x
  ·rcases Int.lt_trichotomy (Hb8 t x) (Hb8 t y) with h3|h3|h3
   ·exact .inl ⟨h2,.inr h3⟩
   ·exact absurd (Ebz ht (Hau ht hx).1 (Hau ht hy).1 h3) dz
   ·exact .inr ⟨h1,.inr h3⟩
  ·exact .inr ⟨h1,.inl h2⟩
 ·rcases h with h|h
  ·exact absurd h h1
  ·exact .inl ⟨h,.inl h1⟩
def kE (l:aQ):Int×Int:=(l.rep,l.no)
def qE (ls:List aQ):Prop:=ls.Pairwise fun a b=>ltQ (kE a) (kE b)=true
def lJ (x:Int×Int)(ls:List aQ):Nat:=(ls.takeWhile fun l=>ltQ (kE l) x).length
def kJ (x:Int×Int)(ls:List aQ):List aQ:=ls.filter fun l=>!(kE l==x)
def Eay (x:Int×Int)(ls:List aQ):Bool:=ls.any fun l=>kE l==x
def Kaj (l:aQ)(ls:List aQ):List aQ:=(kJ (kE l) ls).take (lJ (kE l) (kJ (kE l) ls))++l::(kJ (kE l) ls).drop (lJ (kE l) (kJ (kE l) ls))
theorem Nai (x:Int×Int):ltQ x x=false:=by rw[qU];omega
theorem Pa2 {x y z:Int×Int}(h:ltQ x y=true)(h2:ltQ y z=true):ltQ x z=true:=by rw[xU]at *;omega
theorem Ebv {x y:Int×Int}(h:ltQ x y=true):ltQ y x=false:=by rw[xU]at h;rw[qU];omega
theorem vW (x:Int×Int)(ls:List aQ):lJ x ls<=ls.length:=by
 unfold lJ;exact (List.takeWhile_sublist _).length_le
theorem vV {x:Int×Int}:∀ {ls:List aQ} {k:Nat} (hk:k<lJ x ls),ltQ (kE (ls[k]'(Nat.lt_of_lt_of_le hk (vW x ls)))) x=true
 | l :: ls, k, hk => by
  unfold lJ at hk;rw[List.takeWhile_cons]at hk;split at hk
  ·rename_i h
   cases k with
   |zero=>exact h
   | succ k =>
    rw[Rbw]at hk;exact vV (ls:=ls) (k:=k) (by unfold lJ;omega)
  ·simp at hk
theorem Bai {x:Int×Int}:∀ {ls:List aQ},qE ls->∀ {k:Nat} (hk:k<ls.length),lJ x ls<=k->ltQ (kE ls[k]) x=false
 | l :: ls, hs, k, hk, hc => by
  obtain⟨h1,h2⟩:=Tbc.1 hs;unfold lJ at hc;rw[List.takeWhile_cons]at hc;split at hc
  ·rename_i h
   cases k with
   |zero=>simp at hc
   | succ k =>
    rw[Rbw]at hc;exact Bai h2 (by simpa using hk) (by unfold lJ;omega)
  ·rename_i h
   have h':ltQ (kE l) x=false:=by simpa using h
   cases k with
   |zero=>exact h'
   | succ k =>
    have:=h1 _ (Sb7 (by simpa using hk:k<ls.length));rw[List.getElem_cons_succ];rw[qU]at h' ⊢;rw[xU]at this;omega
theorem Ibr {x:Int×Int}{ls:List aQ}(hs:qE ls){k:Nat}(hk:k<=ls.length)(h1:∀ j (hj:j<ls.length),j<k->ltQ (kE ls[j]) x=true)(h2:∀ j (hj:j<ls.length),k<=j->ltQ (kE ls[j]) x=false):lJ x ls=k:=by
 have hc:=vW x ls
 rcases Nat.lt_trichotomy (lJ x ls) k with h|h|h
 ·have a:=h1 (lJ x ls) (by omega) h
  have b:=Bai (x:=x) hs (k:=lJ x ls) (by omega) (Rbt _);rw[a]at b;cases b
 ·exact h
 ·have a:=h2 k (by omega) (Rbt _)
  have b:=vV (x:=x) (ls:=ls) h;rw[a]at b;cases b
theorem Bad {x:Int×Int}{ls:List aQ}(hs:qE ls):Eay x ls=true↔∃ h:lJ x ls<ls.length,kE (ls[lJ x ls]'h)=x:=by
 unfold Eay;rw[Tbx];constructor
 ·rintro⟨l,hl,e⟩
  obtain⟨k,hk,rfl⟩:=Sby.1 hl;have e':kE ls[k]=x:=by simpa using e
  have:lJ x ls=k:=by
   refine Ibr hs (by omega) (fun j hj hjk=>?_) fun j hj hjk=>?_
   ·rw[<- e'];exact Tbk.1 hs j k hj hk hjk
   ·rcases Rbu k j with h|h
    ·have:=Ebv (Tbk.1 hs k j hk hj h)
     rw[<- e'];exact this
    ·obtain rfl:j=k:=by omega
     rw[e'];exact Nai x
  subst this;exact⟨hk,e'⟩
 ·rintro⟨h,e⟩
  exact⟨_,Sb7 h,by simp[e]⟩
theorem Uas {x:Int×Int}{ls:List aQ}(h:Eay x ls=false):kJ x ls=ls:=by
 unfold kJ;rw[List.filter_eq_self];intro l hl;unfold Eay at h;rw[Tbe]at h;simpa using h l hl
theorem Uat {x:Int×Int}{ls:List aQ}(hs:qE ls)(h:Eay x ls=true):kJ x ls=ls.take (lJ x ls)++ls.drop (lJ x ls+1):=by
 obtain⟨hk,e⟩:=(Bad hs).1 h;generalize hc:lJ x ls=k at *;have fN:ls=ls.take k++ls[k]::ls.drop (k+1):=by rw[<- Sb8 hk,Tbh]
 have ha:∀ l∈ls.take k,(!(kE l==x))=true:=fun l hl=>by
  obtain⟨j,hj,rfl⟩:=Sby.1 hl;rw[Rbv]at hj;rw[List.getElem_take];have:=vV (x:=x) (ls:=ls) (k:=j) (by omega);simp only[Rb0,beq_eq_false_iff_ne];intro e2;rw[e2,Nai]at this;cases this
 have hb:∀ l∈ls.drop (k+1),(!(kE l==x))=true:=fun l hl=>by
  obtain⟨j,hj,rfl⟩:=Sby.1 hl;rw[Sbj]at hj;rw[List.getElem_drop];have:=Tbk.1 hs k (k+1+j) hk (by omega) (by omega);simp only[Rb0,beq_eq_false_iff_ne];intro e2;rw[e2,e,Nai]at this;cases this
 unfold kJ
 conv=>lhs;rw[fN]
 rw[List.filter_append,List.filter_cons,List.filter_eq_self.2 ha,List.filter_eq_self.2 hb,e];simp
theorem qJ {x:Int×Int}{ls:List aQ}(hs:qE ls):qE (kJ x ls):=List.Pairwise.filter _ hs
theorem Dao {x:Int×Int}{ls:List aQ}{l:aQ}(h:l∈kJ x ls):l∈ls/\kE l≠x:=by
 unfold kJ at h;rw[Tbr]at h;exact⟨h.1,by simpa using h.2⟩
theorem Abq (x:Int×Int)(ls:List aQ):Eay x (kJ x ls)=false:=by
 unfold Eay;rw[Tbe];intro l hl;simpa using (Dao hl).2
theorem Ebp {l l':aQ}{ls:List aQ}(h:l'∈Kaj l ls):l'=l\/l'∈ls:=by
 unfold Kaj at h
 rcases Rbq.1 h with h|h
 ·exact .inr (Dao (Tb4 h)).1
 ·rcases Rbg.1 h with h|h
  ·exact .inl h
  ·exact .inr (Dao (Sbx h)).1
theorem Ya6 {l:aQ}{ls:List aQ}(hs:qE ls):qE (Kaj l ls):=by
 have hd:=qJ (x:=kE l) hs;have hn:=Abq (kE l) ls;unfold Kaj;generalize kJ (kE l) ls=ds at *;have hc:=vW (kE l) ds
 have mn:∀ a∈ds.take (lJ (kE l) ds),ltQ (kE a) (kE l)=true:=fun a ha=>by
  obtain⟨j,hj,rfl⟩:=Sby.1 ha;rw[Rbv]at hj;rw[List.getElem_take];exact vV (by omega)
 have sd:∀ a∈ds.drop (lJ (kE l) ds),ltQ (kE l) (kE a)=true:=fun a ha=>by
  obtain⟨j,hj,rfl⟩:=Sby.1 ha;rw[Sbj]at hj;rw[List.getElem_drop];have h1:=Bai (x:=kE l) hd (k:=lJ (kE l) ds+j) (by omega) (by omega)
  have h2:kE ds[lJ (kE l) ds+j]≠kE l:=by
   unfold Eay at hn;rw[Tbe]at hn;simpa using hn _ (Sb7 (by omega:lJ (kE l) ds+j<ds.length))
  rw[xU];rw[qU]at h1
  rcases h1 with h|⟨h,h'⟩
  ·exact .inl h
  ·refine .inr ⟨h.symm,?_⟩
   rcases Int.lt_or_eq_of_le h' with h3|h3
   ·exact h3
   ·exact absurd (Prod.ext h h3.symm) h2
 unfold qE;rw[List.pairwise_append];refine⟨hd.sublist (List.take_sublist _ _),Tbc.2 ⟨sd,hd.sublist (List.drop_sublist _ _)⟩,fun a ha b hb=>?_⟩
 rcases Rbg.1 hb with rfl|hb
 ·exact mn a ha
 ·exact Pa2 (mn a ha) (sd b hb)
theorem Faw {p l:aQ}:Ha9 p l=false↔ltQ (kE p) (kE l)=true:=by
 unfold Ha9;rw[xU];simp only[Bool.or_eq_false_iff,decide_eq_false_iff_not,Bool.and_eq_false_iff,beq_eq_false_iff_ne,kE];omega
theorem mY {r:wQ}:iN r=true↔eH r.table=true/\inR r.me 0 (r.table.n-1)=true/\(∀ l∈r.leads,iY r.table.n r.me l=true)/\qE r.leads:=by
 unfold iN;rw[Qb6,Qb6,jB,and_assoc];refine and_congr_right fun _=>and_congr_right fun _=>?_
 constructor
 ·intro h
  have ig:∀ i (hi:i<r.leads.length),iY r.table.n r.me r.leads[i]=true/\∀ (h0:0<i),ltQ (kE (r.leads[i-1]'(by omega))) (kE r.leads[i])=true:=fun i hi=>by
   have:=h i hi;unfold yC at this;rw[Qb6,bN hi]at this;refine⟨this.1,fun h0=>?_⟩;have h2:=this.2;rw[show ((i:Int)-1)=((i-1:Nat):Int) by omega,bN (show i-1<r.leads.length by omega),decide_eq_true (show (0:Int)<(i:Int) by omega),Sbk,Rb0]at h2;exact Faw.1 h2
  refine⟨fun l hl=>?_,Tbk.2 ?_⟩
  ·obtain⟨i,hi,rfl⟩:=Sby.1 hl
   exact (ig i hi).1
  ·intro i j hi hj qx
   induction j with
   |zero=>omega
   | succ j ih =>
    have h2:=(ig (j+1) hj).2 (by omega);simp only[Nat.add_sub_cancel]at h2
    rcases Rbu i j with h3|h3
    ·exact Pa2 (ih (by omega) h3) h2
    ·obtain rfl:i=j:=by omega
     exact h2
 ·rintro⟨h1,h2⟩ i hi
  unfold yC;rw[Qb6,bN hi];refine⟨h1 _ (Sb7 hi),?_⟩;by_cases h0:0<i
  ·rw[show ((i:Int)-1)=((i-1:Nat):Int) by omega,bN (show i-1<r.leads.length by omega),Faw.2 (Tbk.1 h2 (i-1) i (by omega) hi (by omega))]
   simp
  ·rw[decide_eq_false (by omega)]
   rfl
def Saa (n me:Int)(m:gH)(dst:Int):gH:=⟨m.kind,me,dst,m.rep,m.no,m.ballot,m.vote,m.state,m.cmd,if (m.attr.deps.length:Int)==0 then none0 n else m.attr⟩
def Bam (n me:Int)(m:gH)(k:Nat):List gH:=(Uby k).flatMap fun i:Nat=>if (i:Int)==me then [] else [Saa n me m (i:Int)]
theorem yS (n me:Int)(m:gH)(k:Nat):Bam n me m (k+1)=Bam n me m k++if (k:Int)==me then [] else [Saa n me m k]:=by
 simp[Bam,List.range_succ,List.flatMap_append]
theorem wF (n me:Int)(m:gH):∀ k,(Bam n me m k).length<=k
 |0=>by simp[Bam]
 | k + 1 => by
  have:=wF n me m k;rw[yS,Rbh];split<;>simp<;>omega
theorem Ab0 (l:aQ)(a b:Int):decide (Wav [l.rep,l.no] [a,b]<0)=ltQ (kE l) (a,b):=by
 unfold Wav Gay ltQ kE;by_cases h1:l.rep<a
 ·simp[h1]
 ·rw[if_neg h1]
  by_cases h2:a<l.rep
  ·have h3:¬ l.rep=a:=by omega
   simp[h1,h2,h3]
  ·rw[if_neg h2]
   have:l.rep=a:=by omega
   unfold Gay;by_cases h3:l.no<b
   ·simp[h1,this,h3]
   ·rw[if_neg h3]
    by_cases h4:b<l.no
    ·simp[h1,this,h3,h4]
    ·rw[if_neg h4]
     simp[Gay,h1,this,h3]
theorem Ab1 (l:aQ)(a b:Int):(Wav [l.rep,l.no] [a,b]==0)=(kE l==(a,b)):=by
 unfold Wav Gay kE;by_cases h1:l.rep<a
 ·have:¬ l.rep=a:=by omega
  simp[h1,this]
 ·rw[if_neg h1]
  by_cases h2:a<l.rep
  ·have:¬ l.rep=a:=by omega
   simp[h2,this]
  ·rw[if_neg h2]
   have:l.rep=a:=by omega
   unfold Gay;by_cases h3:l.no<b
   ·have h5:¬ l.no=b:=by omega
    simp[h3,h5]
   ·rw[if_neg h3]
    by_cases h4:b<l.no
    ·have h5:¬ l.no=b:=by omega
     simp[h4,h5]
    ·have h5:l.no=b:=by omega
     rw[if_neg h4];simp[Gay,this,h5]
theorem Fb7 {a:Int}(h0:0<=a)(h1:a<=1000000000000):(aS.conv .u64).run [i64 a]=some [u64 a]/\(aS.bin .shr).run [u64 a,.int .u64 1]=some [u64 (a / 2)]/\(aS.conv .i64).run [u64 (a / 2)]=some [i64 (a / 2)]:=by
 refine⟨?_,?_,?_⟩
 ·rw[u_conv,show IntKind.u64.wrap a=a by rw[IntKind.wrap_u64];omega]
 ·show some [u64 (a.fdiv (2 ^ 1))]=_
  rw[Int.fdiv_eq_ediv_of_nonneg _ (by omega)];rfl
 ·show some [D.int .i64 (IntKind.i64.wrap (a / 2))]=_
  rw[show IntKind.i64.wrap (a / 2)=a / 2 by rw[IntKind.wrap_i64];omega]
theorem Qa2 {ls:List aQ}{k:Nat}(h:k<ls.length)(hl:ls.length<=10000000000):Bbq 16 [rL ls,i64 (k:Int),i64 ((k:Int)+1)]=some [rL (ls.take k++ls.drop (k+1))]:=by
 show Bbq 16 [.rows 16 (ls.map Enc.enc),.int .i64 (k:Int),.int .i64 ((k:Int)+1)]=some [.rows 16 ((ls.take k++ls.drop (k+1)).map Enc.enc)]
 simp only[Bbq];rw[if_pos ⟨trivial,by omega,by omega,by rw[Rb4];omega,by rw[Rb4];omega,by rw[Rb4];omega⟩];rw[show ((k:Int)).toNat=k by omega,show ((k:Int)+1).toNat=k+1 by omega,Tb3,List.map_take,List.map_drop]
theorem Qad {ls:List aQ}{k:Nat}(l:aQ)(h:k<=ls.length)(hl:ls.length<=10000000000):Bbp 16 [rL ls,i64 (k:Int),rL [l]]=some [rL (ls.take k++l::ls.drop k)]:=by
 show Bbp 16 [.rows 16 (ls.map Enc.enc),.int .i64 (k:Int),.rows 16 [Enc.enc l]]=some [.rows 16 ((ls.take k++l::ls.drop k).map Enc.enc)]
 simp only[Bbp];rw[if_pos ⟨trivial,trivial,by omega,by rw[Rb4];omega,by rw[Rb4];omega⟩];rw[show ((k:Int)).toNat=k by omega,Tb3,List.map_cons,List.map_take,List.map_drop]
theorem oM (x:Int×Int)(ls:List aQ):(kJ x ls).length<=ls.length:=List.length_filter_le _ _
theorem Nac (l:aQ)(ls:List aQ):(Kaj l ls).length<=ls.length+1:=by
 have:=oM (kE l) ls;unfold Kaj;rw[Rbh,Rbw,Rbv,Sbj];omega
theorem Hbb {t:aY}{n:Int}(h:t.n=n):(⟨n,t.rows⟩:aY)=t:=by subst h;rfl
theorem Vax {me:Int}{t:aY}{ls:List aQ}(h:iN ⟨me,t,ls⟩=true)(x:Int×Int):iN ⟨me,t,kJ x ls⟩=true:=by
 rw[mY]at h ⊢;exact⟨h.1,h.2.1,fun l hl=>h.2.2.1 l (Dao hl).1,qJ h.2.2.2⟩
theorem Pan {me:Int}{t:aY}{ls:List aQ}{l:aQ}(h:iN ⟨me,t,ls⟩=true)(hl:iY t.n me l=true):iN ⟨me,t,Kaj l ls⟩=true:=by
 rw[mY]at h ⊢;exact⟨h.1,h.2.1,fun x hx=>(Ebp hx).elim (fun e=>e▸hl) (h.2.2.1 x),Ya6 h.2.2.2⟩
theorem Pam {me:Int}{t:aY}{ls:List aQ}{rep no:Int}{r:aZ}(h:iN ⟨me,t,ls⟩=true)(hi:inst t.n rep no=true)(hr:rowOk t.n r=true):iN ⟨me,wY t rep no r,ls⟩=true:=by
 rw[mY]at h ⊢;exact⟨Wa4 h.1 hi hr,h.2⟩
theorem iU {r:wQ}(h:iN r=true):eH r.table=true:=(mY.1 h).1
theorem nQ {r:wQ}(h:iN r=true):qE r.leads:=(mY.1 h).2.2.2
theorem Gar {r:wQ}(h:iN r=true):0<=r.me/\r.me<=r.table.n-1:=by
 have:=(mY.1 h).2.1;simpa[inR] using this
theorem yB {n me:Int}{l:aQ}(h:iY n me l=true):inst n l.rep l.no=true/\inR l.ballot 0 9999=true/\Haq l.who 0 (n-1)=true/\Fa0 l.who me=true/\fF n l.first=true/\fF n l.attr=true:=by
 unfold iY at h;simp only[Qb6]at h;exact⟨h.1.1.1.1.1.1,h.1.1.1.1.1.2,h.1.1.1.1.2,h.1.1.1.2,h.1.1.2,h.1.2⟩
theorem Kaq {n me:Int}{l:aQ}(h:iY n me l=true)(hp:l.phase=1\/l.phase=2):wT l.cmd=true:=by
 unfold iY at h;simp only[Qb6]at h;have h2:=h.2
 rcases hp with e|e<;>rw[e]at h2<;>simp at h2
 ·exact h2.1
 ·exact h2.1.1.1
theorem iQ {n rep no:Int}(h:inst n rep no=true):1<=no/\no<=1000:=by have:=kG h;omega
theorem Ea8 {n:Int}{a:bY}(hg:bM n=true)(h:fF n a=true):0<a.deps.length/\a.deps.length<=10000000000:=by
 have h1:=aV hg;have h2:=(zZ h).2.2.1;omega
theorem Va0 {n me rep no ballot:Int}{c:wW}{a:bY}{ph:Int}{same:Bool}(hi:inst n rep no=true)(hb:inR ballot 0 9999=true)(hm:0<=me/\me<=n-1)(ha:fF n a=true)(hc:wT c=true)
  (hp:(ph=1)\/(ph=2/\same=false)):iY n me ⟨rep,no,ballot,ph,c,a,a,same,[me],[]⟩=true:=by
 have h1:Haq [me] 0 (n-1)=true:=by
  unfold Haq;rw[jB];intro i hi;obtain rfl:i=0:=by simpa using hi
  simp[inR,Aab,atI,hm.1,hm.2]
 have h2:Fa0 [me] me=true:=by simp[Fa0]
 unfold iY
 rcases hp with rfl|⟨rfl,rfl⟩<;>simp[hi,hb,h1,h2,ha,hc]
theorem Yay {n ballot:Int}{st:Int}{c:wW}{a:bY}(hb:inR ballot 0 9999=true)(hc:wT c=true)(ha:fF n a=true)(hs:st=1\/st=2):rowOk n ⟨ballot,ballot,st,c,a⟩=true:=by
 have:0<=ballot/\ballot<=9999:=by simpa[inR] using hb
 unfold rowOk
 rcases hs with rfl|rfl<;>simp[hb,hc,ha,inR,this.1,this.2]
theorem Hbu {xs:List Int}{lo hi:Int}(h:Haq xs lo hi=true):∀ i (hi:i<xs.length),lo+i<=xs[i]:=by
 have hm:=Ta4 h;unfold Haq at h;rw[jB]at h;intro i
 induction i with
 | zero =>
  intro ju;have:=hm _ (Sb7 ju);omega
 | succ i ih =>
  intro uy;have h1:=h (i+1) uy;rw[Qb6]at h1;have h2:=h1.2;unfold Aab at h2;rw[bN uy,show ((i+1:Nat):Int)-1=((i:Nat):Int) by omega,bN (show i<xs.length by omega),decide_eq_true (show 0<i+1 by omega),Sbk,Rb0,decide_eq_false_iff_not]at h2;have:=ih (by omega);omega
theorem Ebj {xs:List Int}{n:Int}(h:Haq xs 0 (n-1)=true)(h0:0<xs.length):(xs.length:Int)<=n:=by
 have h1:=Hbu h (xs.length-1) (by omega);have h2:=Ta4 h _ (Sb7 (show xs.length-1<xs.length by omega));omega
theorem Pa6 {n me:Int}{l:aQ}(hg:bM n=true)(h:iY n me l=true):aJ l<=100:=by
 have hn:=aV hg;obtain⟨h1,h2,h3,h4,h5,h6⟩:=yB h;have a1:=(zZ h5).2.2.1;have a2:=(zZ h6).2.2.1
 have hw:(l.who.length:Int)<=n:=by
  rcases Nat.eq_zero_or_pos l.who.length with e|e
  ·omega
  ·exact Ebj h3 e
 have hs:szL aG l.seen<=60:=by
  unfold iY at h;simp only[Qb6]at h;have h7:=h.2
  have hz:(l.seen.length:Int)=0->szL aG l.seen<=60:=fun e=>by
   have:l.seen=[]:=List.length_eq_zero_iff.1 (by omega);rw[this];exact Nat.zero_le _
  split at h7
  ·rw[Qb6,beq_iff_eq]at h7;exact hz h7.2
  ·split at h7
   ·simp only[Qb6,beq_iff_eq]at h7;exact hz h7.1.1.2
   ·split at h7
    ·simp only[Qb6,beq_iff_eq,Rb6]at h7
     have hr:∀ r∈l.seen,aG r<=5:=fun r hr=>by
      have:=uF (h7.2 r hr).1 hg;rw[Xai];omega
     have:=Ja1 (f:=aG) (k:=5) hr;have hl:(l.seen.length:Int)=l.who.length:=h7.1.2;omega
    ·cases h7
 rw[qM];omega
theorem Tam {t:aY}(h:eH t=true):szL (szL aG) t.rows<=2000:=by
 have hg:=bL h;have hn:=aV hg;have hl:=jR h
 have:=Ja1 (f:=szL aG) (k:=100) (xs:=t.rows) fun l hl=>by
  obtain⟨h1,h2⟩:=qH h hl
  have:=Ja1 (f:=aG) (k:=5) (xs:=l) fun r hr=>by
   have:=uF (h2 r hr) hg;rw[Xai];omega
  omega
 omega
theorem Ebm {r:wQ}(h:iN r=true):bV r<=2000+101*r.leads.length:=by
 have ht:=iU h;have:=Tam ht;have h3:=(mY.1 h).2.2.1;have:=Ja1 (f:=aJ) (k:=100) (xs:=r.leads) fun l hl=>Pa6 (bL ht) (h3 l hl)
 rw[Baw];omega
theorem Ta6 {r:wQ}(h:iN r=true)(hl:r.leads.length<=1000000000):gQ r.table.rows/\iH r.leads:=by
 have ht:=iU h;have hg:=bL ht;have h3:=(mY.1 h).2.2.1;exact⟨Tax (Rbz (Tam ht) (by omega)),by omega,fun l hl=>Pae (Rbz (Pa6 hg (h3 l hl)) (by omega))⟩
def Ka7 (l:aQ):aZ:=⟨l.ballot,l.ballot,2,l.cmd,l.attr⟩
def Tad (me:Int)(l:aQ):aQ:=⟨l.rep,l.no,l.ballot,2,l.cmd,l.attr,l.attr,false,[me],[]⟩
def Rag (l:aQ):gH:=⟨3,0,0,l.rep,l.no,l.ballot,0,0,l.cmd,l.attr⟩
def Ja4 (t:aY)(l:aQ):Bool:=decide (l.ballot<(eY t l.rep l.no).ballot)
def Wax (t:aY)(l:aQ):aY:=if Ja4 t l then t else wY t l.rep l.no (Ka7 l)
def Waz (me:Int)(t:aY)(ls:List aQ)(l:aQ):List aQ:=if Ja4 t l then kJ (kE l) ls else Kaj (Tad me l) ls
def Fby (me:Int)(t:aY)(out:List gH)(l:aQ):List gH:=if Ja4 t l then out else out++Bam t.n me (Rag l) t.n.toNat
theorem Gbw (t:aY)(l:aQ):(Wax t l).n=t.n:=by unfold Wax;split<;>rfl
theorem Gbv {me:Int}{t:aY}{ls:List aQ}{l:aQ}(h:iN ⟨me,t,ls⟩=true)(hi:inst t.n l.rep l.no=true)(hb:inR l.ballot 0 9999=true)(ha:fF t.n l.attr=true)(hc:wT l.cmd=true) :
  iN ⟨me,Wax t l,Waz me t ls l⟩=true/\rowOk t.n (Ka7 l)=true:=by
 have hr:rowOk t.n (Ka7 l)=true:=Yay hb hc ha (.inr rfl);refine⟨?_,hr⟩;unfold Wax Waz;split
 ·exact Vax h _
 ·exact Pan (Pam h hi hr) (Va0 hi hb (Gar h) ha hc (.inr ⟨rfl,rfl⟩))
theorem Ua3 (me:Int)(t:aY)(ls:List aQ)(l:aQ):(Waz me t ls l).length<=ls.length+1:=by
 unfold Waz;split
 ·have:=oM (kE l) ls;omega
 ·exact Nac _ _
def Nbn:wQ:=⟨0,⟨0,[]⟩,[]⟩
abbrev Mb2:=wQ×List gH×Bool
def Taa:Mb2:=(Nbn,[],false)
def zP (r:wQ)(rep no:Int):aQ:=atI r.leads ((lJ (rep,no) r.leads:Nat):Int)
def Gbl (r:wQ)(rep no:Int):Bool :=
 iN r&&Eay (rep,no) r.leads&&!((eY r.table rep no).state==3)&&(zP r rep no).phase==1&&(zP r rep no).ballot==0&&decide (r.table.n / 2<((zP r rep no).who.length:Int))
def kS (r:wQ)(rep no:Int):Mb2 :=
 if Gbl r rep no then (⟨r.me,Wax r.table (zP r rep no),Waz r.me r.table r.leads (zP r rep no)⟩,Fby r.me r.table [] (zP r rep no),true) else Taa
theorem Iaf {r:wQ}{rep no:Int}(h:iN r=true)(h2:Eay (rep,no) r.leads=true):InB r.leads ((lJ (rep,no) r.leads:Nat):Int)/\kE (zP r rep no)=(rep,no)/\iY r.table.n r.me (zP r rep no)=true:=by
 obtain⟨hk,e⟩:=(Bad (nQ h)).1 h2;unfold zP;rw[bN hk];exact⟨aN.2 hk,e,(mY.1 h).2.2.1 _ (Sb7 hk)⟩
theorem Mbt {α:Type}{p:α->Bool}{xs:List α}{k:Nat}(hk:k<xs.length)(hp:p xs[k]=true)(h:∀ j (hj:j<k),p (xs[j]'(by omega))=false):ixF p xs=(k:Int):=by
 unfold ixF;rw[Tb9.2 ⟨hk,hp,fun j hj=>by simpa using h j hj⟩]
theorem Eb3 {α:Type}{p:α->Bool}{xs:List α}(h:∀ x∈xs,p x=false):ixF p xs=-1:=by
 unfold ixF;rw[List.findIdx?_eq_none_iff.2 h]
theorem ixL {ls:List aQ}(hs:qE ls)(x:Int×Int):ixF (fun l=>kE l==x) ls=if Eay x ls then ((lJ x ls:Nat):Int) else -1:=by
 split
 ·rename_i h
  obtain⟨hk,e⟩:=(Bad hs).1 h;refine Mbt hk (by simpa using e) fun j hj=>?_
  have:=vV (x:=x) (ls:=ls) hj;simp only[beq_eq_false_iff_ne];intro e2;rw[e2,Nai]at this;cases this
 ·rename_i h
  refine Eb3 fun l hl=>?_
  have h':Eay x ls=false:=by simpa using h
  unfold Eay at h';rw[Tbe]at h';simpa using h' l hl
def Fbx (a:Mb2):Prop:=(iN a.1=true\/a.1=Nbn)/\a.1.leads.length<=3000000/\a.2.1.length<=10/\∀ m∈a.2.1,m.attr.deps.length<=10
theorem Raf {a:Mb2}(h:Fbx a):szL (szL aG) a.1.table.rows<=1099511627776/\szL aJ a.1.leads<=1099511627776/\ctL bJ a.1.leads<=1125899906842624/\ctL (ctL aL) a.1.table.rows<=1125899906842624/\aX a.1.table<=1099511627776/\bV a.1<=1099511627776/\szL dJ a.2.1<=1099511627776/\ctL fM a.2.1<=1125899906842624:=by
 obtain⟨h1,h2,h3,h4⟩:=h;have m1:szL dJ a.2.1<=a.2.1.length*(10+1):=Ja1 fun m hm=>by rw[zA];exact h4 m hm
 have m2:=oN (c:=fM) (f:=dJ) (m:=16) (by omega) Fbl a.2.1;have m3:szL dJ a.2.1<=110:=Rbz m1 (Nat.mul_le_mul_right 11 h3)
 rcases h1 with h1|h1
 ·have a1:=Ebm h1
  have a2:=Baw a.1;have a3:=oN (c:=bJ) (f:=aJ) (m:=16) (by omega) Iax a.1.leads;have a4:=oN (c:=(ctL aL)) (f:=(szL aG)) (m:=16) (by omega) (fun xs=>Rbz (oN (c:=aL) (f:=aG) (m:=16) (by omega) Gax xs) (Nat.le_add_left _ _)) a.1.table.rows;have a5:=Jaz a.1.table;omega
 ·rw[h1]
  refine⟨?_,?_,?_,?_,?_,?_,by omega,by omega⟩<;>decide
theorem Bbh:Fbx Taa:=⟨.inr rfl,by decide,by decide,fun m hm=>by cases hm⟩
theorem Ka6 {n me:Int}{m:gH}(hg:bM n=true)(h:m.attr.deps.length<=10)(k:Nat):∀ x∈Bam n me m k,x.attr.deps.length<=10:=by
 intro x hx;unfold Bam at hx;rw[Ubz]at hx;obtain⟨i,-,hx⟩:=hx;split at hx
 ·cases hx
 ·rw[Rbb]at hx
  subst hx;unfold Saa;simp only;split
  ·have:=aV hg
   simp only[none0,Sbu];omega
  ·exact h
theorem Va6 (r:wQ)(rep no:Int)(hl:r.leads.length<=2000000):Fbx (kS r rep no):=by
 unfold kS;split
 ·rename_i c0
  unfold Gbl at c0;simp only[Qb6]at c0;obtain⟨⟨⟨⟨⟨c1,c2⟩,c3⟩,c4⟩,c5⟩,c6⟩:=c0;obtain⟨q1,q2,q3⟩:=Iaf c1 c2;obtain⟨p1,p2,p3,p4,p5,p6⟩:=yB q3;have hg:=bL (iU c1);have hn:=aV hg;have hk:=Kaq q3 (.inl (by simpa using c4));have hao:=Gbv (me:=r.me) (t:=r.table) (ls:=r.leads) c1 p1 p2 p6 hk
  have eo:(Rag (zP r rep no)).attr.deps.length<=10:=by
   have:=(zZ p6).2.2.1;show (zP r rep no).attr.deps.length<=10
   omega
  have hac:=Ua3 r.me r.table r.leads (zP r rep no);refine⟨.inl hao.1,by simp only;omega,?_,?_⟩
  ·simp only
   unfold Fby;have:=wF r.table.n r.me (Rag (zP r rep no)) r.table.n.toNat;split
   ·simp
   ·rw[Sbm];omega
  ·simp only
   unfold Fby;split
   ·simp
   ·rw[Sbm]
    exact Ka6 hg eo _
 ·exact Bbh
def Jbf:wW:=⟨0,0,0,0,0⟩
def Aam (b:Int)(r:aZ):aZ:=⟨b,r.vote,r.state,r.cmd,r.attr⟩
def vF (n me rep no b:Int)(r:aZ):aQ:=⟨rep,no,b,3,Jbf,none0 n,none0 n,false,[me],[r]⟩
def Hat (rep no b:Int):gH:=⟨6,0,0,rep,no,b,0,0,Jbf,⟨0,[]⟩⟩
def Aa5 (r:wQ)(rep no:Int):Int:=nb (eY r.table rep no).ballot r.me
def Ta7 (r:wQ)(rep no:Int):Bool:=iN r&&inst r.table.n rep no&&!((eY r.table rep no).state==3)&&decide (Aa5 r rep no<=9999)
def bP (r:wQ)(rep no:Int):Mb2 :=
 if Ta7 r rep no then (⟨r.me,wY r.table rep no (Aam (Aa5 r rep no) (eY r.table rep no)),Kaj (vF r.table.n r.me rep no (Aa5 r rep no) (eY r.table rep no)) r.leads⟩,Bam r.table.n r.me (Hat rep no (Aa5 r rep no)) r.table.n.toNat,true) else Taa
theorem Ya3 {n b:Int}{r:aZ}(h:rowOk n r=true)(h1:r.ballot<b)(h2:b<=9999):rowOk n (Aam b r)=true:=by
 unfold rowOk at h ⊢;unfold Aam;simp only[Qb6,inR,decide_eq_true_eq]at h ⊢;obtain⟨⟨⟨a1,a2⟩,a3⟩,a4⟩:=h;exact⟨⟨⟨⟨by omega,by omega⟩,by omega,by omega⟩,a3⟩,a4⟩
theorem Gbe {r:wQ}{rep no:Int}(c1:iN r=true)(hi:inst r.table.n rep no=true)(c3:((eY r.table rep no).state==3)=false)(c4:Aa5 r rep no<=9999) :
  iN ⟨r.me,wY r.table rep no (Aam (Aa5 r rep no) (eY r.table rep no)),Kaj (vF r.table.n r.me rep no (Aa5 r rep no) (eY r.table rep no)) r.leads⟩=true/\rowOk r.table.n (Aam (Aa5 r rep no) (eY r.table rep no))=true/\rowOk r.table.n (eY r.table rep no)=true/\0<=Aa5 r rep no:=by
 have ht:=iU c1;have hg:=bL ht;have hn:=aV hg;have hm:=Gar c1;have hr:=Aa0 ht hi;have hb:=xE hr;have hp:=Ebu (b:=(eY r.table rep no).ballot) (me:=r.me) hb.1 hm.1 (by omega);have pP:rowOk r.table.n (Aam (Aa5 r rep no) (eY r.table rep no))=true:=Ya3 hr hp.1 c4;refine⟨Pan (Pam (ls:=r.leads) (me:=r.me) c1 hi pP) ?_,pP,hr,by unfold Aa5;omega⟩;show iY r.table.n r.me _=true
 have h1:Haq [r.me] 0 (r.table.n-1)=true:=by
  unfold Haq;rw[jB];intro i hi;obtain rfl:i=0:=by simpa using hi
  simp[inR,Aab,atI,hm.1,hm.2]
 have h2:Fa0 [r.me] r.me=true:=by simp[Fa0]
 have h3:inR (Aa5 r rep no) 0 9999=true:=by
  unfold Aa5 at *;simp[inR];omega
 unfold iY vF Jbf;simp[hi,h1,h2,h3,Cao hg,hr,c3]
theorem Pao (r:wQ)(rep no:Int)(hl:r.leads.length<=2000000):Fbx (bP r rep no):=by
 unfold bP;split
 ·rename_i c0
  unfold Ta7 at c0;simp only[Qb6,Rb0,decide_eq_true_eq]at c0;obtain⟨⟨⟨c1,c2⟩,c3⟩,c4⟩:=c0;have hg:=bL (iU c1);have hn:=aV hg;have ho:=Gbe c1 c2 c3 c4;have oB:=Nac (vF r.table.n r.me rep no (Aa5 r rep no) (eY r.table rep no)) r.leads;have hal:=wF r.table.n r.me (Hat rep no (Aa5 r rep no)) r.table.n.toNat;exact⟨.inl ho.1,by simp only;omega,by simp only;omega,Ka6 hg (by simp[Hat]) _⟩
 ·exact Bbh
end Go.Proofs.YtgpamlpecmldfaaGreat.Rf
