/- Terms for s6 program's functions, and nj they are right: part 9 of 10. -/
import Derived.Test.YtcbkmmhkccnamaaGreatRf8
import Derived.Lib.ItoaNum
open Bool renaming and_eq_true → Zbd, false_eq_true → Zbg, not_eq_true' → Zb3, or_eq_true → Acp, and_true → Bcu, eq_iff_iff → Bcx, true_and → Cch, or_false → Cci, or_true → Cct
open List renaming mem_append_left → Zbe, getElem?_eq_getElem → Zbf, mem_append_right → Zbh, length_append → Zbi, getD_eq_getElem?_getD → Zbk, append_assoc → Zbm, mem_cons_of_mem → Zbn, mem_singleton → Zbp, replicate → Zbq, length_cons → Zbs, length_map → Zbt, mem_cons_self → Zbu, getElem?_append_right → Zbw, length_nil → Zby, length_take → Zb1, append_nil → Zb4, all_eq_true → Zb6, mem_cons → Acf, length_replicate → Acj, take_length → Acn, length_drop → Acv, drop_eq_getElem_cons → Acy, filter_cons → Ac6, take_append_drop → Ac7, map_append → Ac8, length_filter_le → Bcb, filter_append → Bcc, length_set → Bce, cons_append → Bch, mem_or_eq_of_mem_set → Bcj, mem_range → Bck, getElem_of_mem → Bcm, flatMap_append → Bcn, getElem_mem → Bco, filter_nil → Bcp, mem_of_mem_drop → Bcs, all_cons → Bct, foldl_cons → Bcv, range_succ → Bcy, mem_flatMap → Bcz, getElem_map → Bc0, singleton_append → Bc3, eq_of_mem_replicate → Bc4, pairwise_cons → Bc6, mem_append → Bc8, any_eq_true → Ccc, length_pos_of_mem → Ccd, pairwise_map → Ccg, range → Cck, map_congr_left → Ccl, all_nil → Ccm, getElem_replicate → Ccn, getElem_inj → Ccq, mem_filter → Ccw, pairwise_append → Ccx, getElem_append_left → Cc0, ext_getElem → Cc3
open Nat renaming le_refl → Zbr, lt_or_ge → Zbz, le_trans → Aci, zero_le → Bca
set_option linter.unusedSimpArgs false
set_option linter.unusedVariables false
set_option linter.unnecessarySimpa false
set_option linter.unusedSectionVars false
namespace Go.Proofs.YtcbkmmhkccnamaaGreat.Rf
theorem SZ:(∀ b:Bool,(b&&true)=b)/\(∀ b:Bool,(true&&b)=b)/\(∀ b:Bool,(b&&false)=false)/\(∀ b:Bool,(false&&b)=false) /\
  (∀ b:Bool,(b||true)=true)/\(∀ b:Bool,(true||b)=true)/\(∀ b:Bool,(b||false)=b)/\(∀ b:Bool,(false||b)=b)/\((!true)=false)/\((!false)=true) :=
 ⟨Bcu,Cch,Bool.and_false,Bool.false_and,Cct,Bool.true_or,Cci,Bool.false_or,rfl,rfl⟩
theorem aD {γ:Type}{a r:γ}(h:jD true a r=r):a=r:=h
theorem S0:type_of% (And.intro Zbg (And.intro @ite_true.{1} (And.intro @ite_false.{1} (And.intro @SA (And.intro @SB (And.intro @SC (And.intro @SP (And.intro @SQ (And.intro @SZ (And.intro @beq_self_eq_true.{0} (And.intro @decide_true (And.intro @decide_false (And.intro @Obn @Obp))))))))))))):=And.intro Zbg (And.intro @ite_true.{1} (And.intro @ite_false.{1} (And.intro @SA (And.intro @SB (And.intro @SC (And.intro @SP (And.intro @SQ (And.intro @SZ (And.intro @beq_self_eq_true.{0} (And.intro @decide_true (And.intro @decide_false (And.intro @Obn @Obp))))))))))))
theorem Ga2 {x y:Bool}(h:x=true↔y=true):some [D.bool x]=some [D.bool y]:=by rw[Bool.eq_iff_iff.2 h]
def dG (n:Int):Bool:=n==3||n==5
theorem aY {n:Int}(h:dG n=true):n=3\/n=5:=by simpa[dG] using h
def inst (n rep no:Int):Bool:=inR rep 0 (n-1)&&inR no 1 6
def qY (c:Baa):Bool :=
 if c.kind==0 then decide (c=⟨0,0,0,0,0⟩) else if c.kind==1 then inR c.id 1 999&&inR c.src 0 3&&inR c.dst 0 3&&!(c.src==c.dst)&&inR c.amt 1 1000
 else c.kind==2&&inR c.id 1 999&&inR c.src 0 3&&c.dst==0&&c.amt==0
def Oab (c:Baa):Int :=
 if !inR c.src 0 3||(c.kind==1&&!inR c.dst 0 3) then 4 else if c.kind==1&&c.src==c.dst then 5 else if !inR c.id 1 999||(c.kind==1&&!inR c.amt 1 1000) then 6 else 0
def lY (n:Int)(a:fP):Bool:=inR a.seq 0 999&&(a.deps.length:Int)==n&&a.deps.all fun x=>inR x 0 6
def none0 (n:Int):fP:=⟨0,Zbq n.toNat 0⟩
def rowOk (n:Int)(r:bR):Bool :=
 inR r.ballot 0 9999&&inR r.vote 0 r.ballot&&inR r.state 0 3&&(if r.state==0 then r.vote==0&&decide (r.cmd=⟨0,0,0,0,0⟩)&&decide (r.attr=none0 n) else qY r.cmd&&lY n r.attr)
def zD (n:Int)(m:pO):Bool :=
  dG n&&inR m.kind 1 7&&inst n m.rep m.no&&inR m.src 0 (n-1)&&inR m.dst 0 (n-1)&&!(m.src==m.dst)&&inR m.ballot 0 9999 &&
  (if m.kind==7 then !(m.state==3)&&rowOk n ⟨m.ballot,m.vote,m.state,m.cmd,m.attr⟩
   else !(m.kind==5&&!(m.ballot==0))&&m.vote==0&&m.state==0&&qY m.cmd&&lY n m.attr &&
     (if m.kind==2 then decide (m.cmd=⟨0,0,0,0,0⟩) else if m.kind==4||m.kind==6 then decide (m.cmd=⟨0,0,0,0,0⟩)&&decide (m.attr=none0 n) else true))
theorem Naf {n:Int}(h:dG n=true):lY n (none0 n)=true:=by
 rcases aY h with rfl|rfl<;>rfl
theorem Cbc {c:Baa}(h:decide (c=⟨0,0,0,0,0⟩)=true):qY c=true:=by
 rw[of_decide_eq_true h];rfl
theorem Hbf {c:Baa}:(Oab c==0)=(inR c.src 0 3&&inR c.id 1 999&&(!(c.kind==1)||(inR c.dst 0 3&&!(c.src==c.dst)&&inR c.amt 1 1000))):=by
 unfold Oab;cases inR c.src 0 3<;>cases inR c.id 1 999<;>cases c.kind==1<;>cases inR c.dst 0 3<;>cases c.src==c.dst<;>cases inR c.amt 1 1000<;>rfl
def Zac (xs:List bR):Prop:=xs.length<=10000000000/\∀ r∈xs,r.attr.deps.length<=10000000000
def mI (rows:List (List bR)):Prop:=rows.length<=10000000000/\∀ l∈rows,Zac l
theorem Lbi (r:bR):aQ r=r.attr.deps.length:=fO
theorem Pas {xs:List bR}(h:szL aQ xs<=1048576):Zac xs:=by
 refine⟨Aci (iB (f:=aQ)) (by omega),fun r hr=>?_⟩;have h1:=gP (f:=aQ) hr;rw[Lbi]at h1;omega
theorem Fbm {rows:List (List bR)}(h:szL (szL aQ) rows<=1048576):mI rows:=by
 refine⟨Aci (iB (f:=szL aQ)) (by omega),fun l hl=>Pas ?_⟩;have h1:=gP (f:=szL aQ) hl;omega
def bG (t:aM):Bool:=dG t.n&&(t.rows.length:Int)==t.n&&t.rows.all fun l=>l.all (fun r=>rowOk t.n r)&&decide ((l.length:Int)<=6)
def row0 (n:Int):bR:=⟨0,0,0,⟨0,0,0,0,0⟩,none0 n⟩
def fM (t:aM)(rep no:Int):bR:=if no<=(atI t.rows rep).length then atI (atI t.rows rep) (no-1) else row0 t.n
theorem Kbt:(rL ([]:List Int)=.rows 1 [])/\(rL ([]:List (List Int))=.rows 1 [])/\(rL ([]:List bR)=.rows 10 [])/\(rL ([]:List (List bR))=.rows 1 [])/\(rL ([]:List gY)=.rows 16 [])/\(rL ([]:List pO)=.rows 15 []):=⟨rfl,rfl,rfl,rfl,rfl,rfl⟩
theorem bJ {n rep no:Int}(h:inst n rep no=true):0<=rep/\rep<=n-1/\1<=no/\no<=6:=by
 simp only[inst,inR,Zbd,decide_eq_true_eq]at h;omega
theorem bA {t:aM}(h:bG t=true):dG t.n=true:=by
 simp only[bG,Zbd]at h;exact h.1.1
theorem dM {t:aM}(h:bG t=true):(t.rows.length:Int)=t.n:=by
 simp only[bG,Zbd,beq_iff_eq]at h;exact h.1.2
theorem dL {t:aM}{rep no:Int}(h:bG t=true)(hi:inst t.n rep no=true):InB t.rows rep:=by
 have:=dM h;have:=bJ hi;unfold InB;omega
theorem dV {t:aM}(h:bG t=true){l:List bR}(hl:l∈t.rows):l.length<=6/\∀ r∈l,rowOk t.n r=true:=by
 simp only[bG,Zbd,Zb6,decide_eq_true_eq]at h;have:=h.2 l hl;exact⟨by omega,this.1⟩
theorem Lae {n:Int}{r:bR}(h:rowOk n r=true)(hg:dG n=true):(r.attr.deps.length:Int)=n:=by
 have h2:lY n r.attr=true:=by
  simp only[rowOk,Zbd]at h;have h3:=h.2;split at h3
  ·simp only[Zbd]at h3
   rw[of_decide_eq_true h3.2];exact Naf hg
  ·simp only[Zbd]at h3
   exact h3.2
 simp only[lY,Zbd,beq_iff_eq]at h2;exact h2.1.2
theorem Pax {n:Int}{r:bR}(h:rowOk n r=true):qY r.cmd=true:=by
 simp only[rowOk,Zbd]at h;have h3:=h.2;split at h3
 ·simp only[Zbd]at h3
  exact Cbc h3.1.2
 ·simp only[Zbd]at h3
  exact h3.1
theorem fT {α:Type}[Inhabited α]{xs:List α}{k:Int}(h:InB xs k):atI xs k∈xs:=by
 have h2:=h.lt;have e:((k.toNat:Nat):Int)=k:=by unfold InB at h;omega
 rw[<- e];exact at_mem h2
theorem mW {t:aM}{rep no:Int}(h:bG t=true)(hi:inst t.n rep no=true):rowOk t.n (fM t rep no)=true:=by
 unfold fM;have hb:=dL h hi;have hr:=bJ hi;split
 ·exact (dV h (fT hb)).2 _ (fT (by unfold InB;omega))
 ·rcases aY (bA h) with e|e<;>rw[e]<;>rfl
theorem eF {t:aM}{rep no:Int}(h:bG t=true)(hi:inst t.n rep no=true):((fM t rep no).attr.deps.length:Int)=t.n:=Lae (mW h hi) (bA h)
def ext (n:Int)(l:List bR)(no:Int):List bR:=l++Zbq (no-l.length).toNat (row0 n)
def Ja6 (t:aM)(rep no:Int)(r:bR):aM:=⟨t.n,iJ t.rows rep (iJ (ext t.n (atI t.rows rep) no) (no-1) r)⟩
theorem Jab {n:Int}{l:List bR}{no:Int}(h:0<=no):((ext n l no).length:Int)=max (l.length:Int) no:=by
 simp only[ext,Zbi,Acj];omega
def nb (b me:Int):Int:=if b<8+me then 8+me else b+1+(me-b-1) % 8
theorem Jb3 {x lo hi:Int}(h:inR x lo hi=true):lo<=x/\x<=hi:=by
 simpa[inR] using h
theorem yH {α:Type}{xs:List α}{k:Int}{a:α}:(iJ xs k a).length=xs.length:=Bce ..
theorem Ibs {α:Type}[Inhabited α]{xs:List α}{j k:Int}{a:α}(hj:0<=j)(hk:0<=k)(h:j≠k):atI (iJ xs j a) k=atI xs k:=by
 unfold atI iJ;rw[Zbk,Zbk,List.getElem?_set_ne (by omega)]
theorem Cbd {c:Baa}(h:qY c=true):(c.kind=0\/c.kind=1\/c.kind=2)/\(c.kind=1->(0<=c.src/\c.src<=3)/\(0<=c.dst/\c.dst<=3)/\c.src≠c.dst/\1<=c.amt/\c.amt<=1000)/\(c.kind=2->0<=c.src/\c.src<=3):=by
 unfold qY at h;split at h
 ·rename_i h0
  have:c.kind=0:=by simpa using h0
  exact⟨.inl this,by omega,by omega⟩
 ·split at h
  ·rename_i h1
   have:c.kind=1:=by simpa using h1
   simp only[Zbd,inR,decide_eq_true_eq,Zb3,beq_eq_false_iff_ne]at h;exact⟨by omega,fun _=>⟨h.1.1.1.2,h.1.1.2,h.1.2,h.2⟩,by omega⟩
  ·simp only[Zbd,inR,decide_eq_true_eq,beq_iff_eq]at h
   exact⟨by omega,by omega,fun _=>h.1.1.2⟩
def lF (xs:List Int)(n:Int):Bool:=xs.any fun x=>x==n
def oG (xs:List Int)(n:Int):Nat:=(xs.takeWhile fun x=>decide (x<n)).length
def Oar (xs:List Int)(n:Int):List Int:=if decide ((oG xs n:Int)<xs.length)&&(atI xs (oG xs n:Nat)==n) then xs else xs.take (oG xs n)++[n]++xs.drop (oG xs n)
theorem Jbl (xs:List Int)(n:Int):oG xs n<=xs.length:=(List.takeWhile_sublist _).length_le
theorem Zat:∀ {xs:List Int} {n:Int} {k:Nat},k<oG xs n->atI xs (k:Int)<n
 |[],n,k,h=>by simp[oG]at h
 | x :: xs, n, k, h => by
  unfold oG at h;rw[List.takeWhile_cons]at h;by_cases hx:x<n
  ·rw[if_pos (by simpa using hx)]at h
   cases k with
   |zero=>exact hx
   |succ k=>exact Zat (xs:=xs) (k:=k) (by simpa[oG] using h)
  ·rw[if_neg (by simpa using hx)]at h
   simp at h
theorem Zau:∀ {xs:List Int} {n:Int},oG xs n<xs.length->¬ atI xs (oG xs n:Nat)<n
 |[],n,h=>by simp at h
 | x :: xs, n, h => by
  unfold oG at h ⊢;rw[List.takeWhile_cons]at h ⊢;by_cases hx:x<n
  ·rw[if_pos (by simpa using hx)]at h ⊢
   exact Zau (xs:=xs) (n:=n) (by simpa[oG] using h)
  ·rw[if_neg (by simpa using hx)]
   exact hx
def kW (c:Baa):List Int:=if c.kind==1 then [min c.src c.dst,max c.src c.dst] else if c.kind==2 then [c.src] else []
theorem yC (c:Baa):(kW c).length<=2:=by
 unfold kW;split
 ·simp
 ·split<;>simp
def zY (a b:Baa):Bool:=(kW a).any fun k=>lF (kW b) k
theorem Tah (a b:Baa):zY a b=zY b a:=by
 unfold zY lF;rw[Bcx];simp only[Ccc,beq_iff_eq];constructor
 ·rintro⟨x,hx,y,hy,rfl⟩;exact⟨y,hy,y,hx,rfl⟩
 ·rintro⟨x,hx,y,hy,rfl⟩;exact⟨y,hy,y,hx,rfl⟩
theorem Wbp {a b:Int}(h:a≠b):Oar [a] b=[min a b,max a b]:=by
 by_cases hx:a<b
 ·have e:oG [a] b=1:=by simp[oG,hx]
  unfold Oar;rw[e];simp[Int.min_eq_left (Int.le_of_lt hx),Int.max_eq_right (Int.le_of_lt hx)]
 ·have e:oG [a] b=0:=by simp[oG,hx]
  unfold Oar;rw[e];simp[atI,h,Int.min_eq_right (by omega:b<=a),Int.max_eq_left (by omega:b<=a)]
def gU (l:List bR)(k:Int)(m:Nat):List (List Int):=(Cck m).flatMap fun i:Nat=>if (atI l (i:Int)).state==3 then [[k,(i:Int)+1]] else []
def Ga1 (rows:List (List bR))(m:Nat):List (List Int):=(Cck m).flatMap fun k:Nat=>gU (atI rows (k:Int)) k (atI rows (k:Int)).length
def bU (rows:List (List bR)):List (List Int):=Ga1 rows rows.length
theorem qO (l:List bR)(k:Int)(m:Nat):gU l k (m+1)=gU l k m++if (atI l (m:Int)).state==3 then [[k,(m:Int)+1]] else []:=by
 simp[gU,Bcy,Bcn]
theorem Dad (rows:List (List bR))(m:Nat):Ga1 rows (m+1)=Ga1 rows m++gU (atI rows (m:Int)) m (atI rows (m:Int)).length:=by
 simp[Ga1,Bcy,Bcn]
theorem uL (l:List bR)(k:Int):∀ m,(gU l k m).length<=m
 |0=>by simp[gU]
 | m + 1 => by
  have:=uL l k m;rw[qO,Zbi];split<;>simp<;>omega
theorem nQ {rows:List (List bR)}(h:∀ l∈rows,l.length<=6):∀ {m},m<=rows.length->(Ga1 rows m).length<=6*m
 |0,_=>by simp[Ga1]
 | m + 1, hm => by
  have h1:=nQ h (m:=m) (by omega);have h2:=uL (atI rows (m:Int)) m (atI rows (m:Int)).length;have h3:=h _ (at_mem (show m<rows.length by omega));rw[Dad,Zbi];omega
theorem Va7 {rows:List (List bR)}{x:List Int}(h:x∈bU rows):∃ k i:Nat,k<rows.length/\i<(atI rows (k:Int)).length/\x=[(k:Int),(i:Int)+1]/\(atI (atI rows (k:Int)) (i:Int)).state=3:=by
 unfold bU Ga1 gU at h;simp only[Bcz,Bck]at h;obtain⟨k,hk,i,hi,hx⟩:=h;split at hx
 ·rename_i hs
  exact⟨k,i,hk,hi,by simpa using hx,by simpa using hs⟩
 ·cases hx
theorem iI {t:aM}(ht:bG t=true){x:List Int}(h:x∈bU t.rows):InB x 0/\InB x 1/\x.length=2/\inst t.n (atI x 0) (atI x 1)=true/\(fM t (atI x 0) (atI x 1)).state=3:=by
 obtain⟨k,i,hk,hi,rfl,hs⟩:=Va7 h;have h1:=(dV ht (at_mem hk)).1;have h2:=dM ht;refine⟨by unfold InB;simp,by unfold InB;simp,rfl,?_,?_⟩
 ·simp only[atI,inst,inR,Zbd,decide_eq_true_eq]
  simp;omega
 ·show (fM t (k:Int) ((i:Int)+1)).state=3
  unfold fM;rw[if_pos (by omega),show (i:Int)+1-1=i by omega];exact hs
theorem Ibx {t:aM}(ht:bG t=true){x y:List Int}(hx:inst t.n (atI x 0) (atI x 1)=true)(hy:inst t.n (atI y 0) (atI y 1)=true):InB (fM t (atI x 0) (atI x 1)).attr.deps (atI y 0):=by
 have h1:=eF ht hx;have h2:=bJ hy;unfold InB;omega
def iV (l:List (List Int))(x:List Int):Int:=ixF (fun y=>decide (x=y)) l
def xK (k:Int)(rep no:Int)(m:Nat):List (List Int):=(Cck m).flatMap fun i:Nat=>if !(k==rep)||!((i:Int)+1==no) then [[k,(i:Int)+1]] else []
def Va3 (deps:List Int)(rep no:Int)(m:Nat):List (List Int):=(Cck m).flatMap fun k:Nat=>xK k rep no (atI deps (k:Int)).toNat
theorem Jag (k rep no:Int)(m:Nat):xK k rep no (m+1)=xK k rep no m++if !(k==rep)||!((m:Int)+1==no) then [[k,(m:Int)+1]] else []:=by
 simp[xK,Bcy,Bcn]
theorem Rak (deps:List Int)(rep no:Int)(m:Nat):Va3 deps rep no (m+1)=Va3 deps rep no m++xK m rep no (atI deps (m:Int)).toNat:=by
 simp[Va3,Bcy,Bcn]
def Kap (t:aM)(rep no:Int):List (List Int):=Va3 (fM t rep no).attr.deps rep no (fM t rep no).attr.deps.length
theorem Ean (k rep no:Int):∀ m,(xK k rep no m).length<=m
 |0=>by simp[xK]
 | m + 1 => by
  have:=Ean k rep no m;rw[Jag,Zbi];split<;>simp<;>omega
theorem Gaz {deps:List Int}{rep no:Int}(h:∀ d∈deps,d<=6):∀ {m},m<=deps.length->(Va3 deps rep no m).length<=6*m
 |0,_=>by simp[Va3]
 | m + 1, hm => by
  have h1:=Gaz (rep:=rep) (no:=no) h (m:=m) (by omega);have h2:=Ean (m:Int) rep no (atI deps (m:Int)).toNat;have h3:=h _ (at_mem (show m<deps.length by omega));rw[Rak,Zbi];omega
theorem nU {n:Int}{r:bR}(h:rowOk n r=true)(hg:dG n=true):∀ d∈r.attr.deps,0<=d/\d<=6:=by
 have h2:lY n r.attr=true:=by
  simp only[rowOk,Zbd]at h;have h3:=h.2;split at h3
  ·simp only[Zbd]at h3
   rw[of_decide_eq_true h3.2];exact Naf hg
  ·simp only[Zbd]at h3
   exact h3.2
 simp only[lY,Zbd,Zb6]at h2;exact fun d hd=>Jb3 (h2.2 d hd)
theorem Gay {deps:List Int}{rep no:Int}{m:Nat}{y:List Int}:y∈Va3 deps rep no m↔∃ k i:Nat,k<m/\(i:Int)<atI deps (k:Int)/\¬((k:Int)=rep/\(i:Int)+1=no)/\y=[(k:Int),(i:Int)+1]:=by
 unfold Va3 xK;simp only[Bcz,Bck];constructor
 ·rintro⟨k,hk,i,hi,hy⟩
  split at hy
  ·rename_i hc
   refine⟨k,i,hk,by omega,?_,by simpa using hy⟩;simp only[Acp,Zb3,beq_eq_false_iff_ne,ne_eq]at hc;omega
  ·cases hy
 ·rintro⟨k,i,hk,hi,cJ,rfl⟩
  refine⟨k,hk,i,by omega,?_⟩;rw[if_pos]
  ·simp
  ·simp only[Acp,Zb3,beq_eq_false_iff_ne,ne_eq]
   omega
def kE (xs:List Int):Prop:=xs.Pairwise (· < ·)
theorem yI:∀ {xs ys:List Int},kE xs->kE ys->(∀ x,x∈xs↔x∈ys)->xs=ys
 |[],[],_,_,_=>rfl
 |[],y::ys,_,_,h=>by have:=(h y).2 Zbu;cases this
 |x::xs,[],_,_,h=>by have:=(h x).1 Zbu;cases this
 | x :: xs, y :: ys, hx, hy, h => by
  unfold kE at hx hy;rw[Bc6]at hx hy
  have e:x=y:=by
   rcases List.mem_cons.1 ((h x).1 Zbu) with h1|h1
   ·exact h1
   ·rcases List.mem_cons.1 ((h y).2 Zbu) with h2|h2
    ·exact h2.symm
    ·have:=hx.1 y h2
     have:=hy.1 x h1;omega
  subst e;congr 1;refine yI hx.2 hy.2 fun z=>?_
  constructor
  ·intro hz
   rcases List.mem_cons.1 ((h z).1 (Zbn _ hz)) with h1|h1
   ·subst h1
    exact absurd (hx.1 z hz) (by omega)
   ·exact h1
  ·intro hz
   rcases List.mem_cons.1 ((h z).2 (Zbn _ hz)) with h1|h1
   ·subst h1
    exact absurd (hy.1 z hz) (by omega)
   ·exact h1
theorem Pa7 {x n:Int}{xs:List Int}:Oar (x::xs) n=if x<n then x::Oar xs n else if x==n then x::xs else n::x::xs:=by
 by_cases h:x<n
 ·rw[if_pos h]
  have e:oG (x::xs) n=oG xs n+1:=by simp[oG,h]
  have ea:atI (x::xs) ((oG xs n+1:Nat):Int)=atI xs (oG xs n:Nat):=by
   rw[Oae,Oae,List.getD_cons_succ]
  have el:decide (((oG xs n+1:Nat):Int)<(x::xs).length)=decide (((oG xs n:Nat):Int)<xs.length):=by
   simp only[Zbs,decide_eq_decide];omega
  unfold Oar;rw[e,ea,el];split
  ·rfl
  ·simp
 ·rw[if_neg h]
  have e:oG (x::xs) n=0:=by simp[oG,h]
  unfold Oar;rw[e];have ea:atI (x::xs) ((0:Nat):Int)=x:=rfl;rw[ea];have el:decide (((0:Nat):Int)<(x::xs).length)=true:=by simp
  rw[el,Cch];split
  ·rfl
  ·simp
theorem Gat:∀ {xs:List Int} {n x:Int},x∈Oar xs n↔x∈xs\/x=n
 |[],n,x=>by simp[Oar,oG]
 | y :: ys, n, x => by
  rw[Pa7];split
  ·rw[Acf,Gat,Acf,or_assoc]
  ·split
   ·rename_i h
    have:y=n:=by simpa using h
    subst this;simp[or_comm]
   ·simp only[Acf]
    constructor
    ·rintro (h|h|h)
     ·exact .inr h
     ·exact .inl (.inl h)
     ·exact .inl (.inr h)
    ·rintro ((h|h)|h)
     ·exact .inr (.inl h)
     ·exact .inr (.inr h)
     ·exact .inl h
theorem Aar:∀ {xs:List Int} {n:Int},kE xs->kE (Oar xs n)
 |[],n,_=>by simp[Oar,oG,kE]
 | y :: ys, n, h => by
  have h':=h;unfold kE at h;rw[Bc6]at h;rw[Pa7];split
  ·unfold kE
   rw[Bc6];refine⟨fun z hz=>?_,Aar h.2⟩
   rcases Gat.1 hz with h1|h1
   ·exact h.1 z h1
   ·omega
  ·split
   ·exact h'
   ·rename_i h1 h2
    have:y≠n:=by simpa using h2
    unfold kE;rw[Bc6];refine⟨fun z hz=>?_,h'⟩
    rcases List.mem_cons.1 hz with h3|h3
    ·omega
    ·have:=h.1 z h3
     omega
theorem Fbx (xs:List Int)(n:Int):(Oar xs n).length<=xs.length+1:=by
 unfold Oar;split
 ·omega
 ·simp only[Zbi,Zbs,Zby,Zb1,Acv];omega
def Ra5 (gS ys:List (List Int)):Nat->List Int
 |0=>[]
 |m+1=>if decide (0<=iV gS (atI ys (m:Int))) then Oar (Ra5 gS ys m) (iV gS (atI ys (m:Int))) else Ra5 gS ys m
theorem Ba8 (gS ys:List (List Int))(m:Nat):Ra5 gS ys (m+1)=if decide (0<=iV gS (atI ys (m:Int))) then Oar (Ra5 gS ys m) (iV gS (atI ys (m:Int))) else Ra5 gS ys m:=rfl
theorem Aaq (gS ys:List (List Int)):∀ m,kE (Ra5 gS ys m)
 |0=>List.Pairwise.nil
 | m + 1 => by
  rw[Ba8];split
  ·exact Aar (Aaq gS ys m)
  ·exact Aaq gS ys m
theorem Ua6 (gS ys:List (List Int)):∀ m,(Ra5 gS ys m).length<=m
 |0=>by simp[Ra5]
 | m + 1 => by
  have:=Ua6 gS ys m;rw[Ba8];split
  ·have:=Fbx (Ra5 gS ys m) (iV gS (atI ys (m:Int)))
   omega
  ·omega
theorem Nac {gS ys:List (List Int)}:∀ {m:Nat} {j:Int},j∈Ra5 gS ys m↔∃ i,i<m/\0<=iV gS (atI ys (i:Nat))/\iV gS (atI ys (i:Nat))=j
 |0,j=>by simp[Ra5]
 | m + 1, j => by
  rw[Ba8];split
  ·rename_i h
   have h':0<=iV gS (atI ys (m:Int)):=by simpa using h
   rw[Gat,Nac];constructor
   ·rintro (⟨i,h1,h2⟩|h1)
    ·exact⟨i,by omega,h2⟩
    ·exact⟨m,by omega,h',h1.symm⟩
   ·rintro⟨i,h1,h2,h3⟩
    rcases Zbz i m with h4|h4
    ·exact .inl ⟨i,h4,h2,h3⟩
    ·obtain rfl:i=m:=by omega
     exact .inr h3.symm
  ·rename_i h
   have h':¬ 0<=iV gS (atI ys (m:Int)):=by simpa using h
   rw[Nac];constructor
   ·rintro⟨i,h1,h2⟩;exact⟨i,by omega,h2⟩
   ·rintro⟨i,h1,h2,h3⟩
    rcases Zbz i m with h4|h4
    ·exact⟨i,h4,h2,h3⟩
    ·obtain rfl:i=m:=by omega
     exact absurd h2 h'
def Xaw (gS:List (List Int))(deps:List Int)(x:List Int)(j:Nat):Bool:=!decide (x=atI gS (j:Int))&&decide (atI (atI gS (j:Int)) 1<=atI deps (atI (atI gS (j:Int)) 0))
def xA (gS:List (List Int))(deps:List Int)(x:List Int)(m:Nat):List Int:=(Cck m).flatMap fun j:Nat=>if Xaw gS deps x j then [(j:Int)] else []
theorem Eah (gS:List (List Int))(deps:List Int)(x:List Int)(m:Nat):xA gS deps x (m+1)=xA gS deps x m++if Xaw gS deps x m then [(m:Int)] else []:=by
 simp[xA,Bcy,Bcn]
theorem Iaw (gS:List (List Int))(deps:List Int)(x:List Int):∀ m,(xA gS deps x m).length<=m
 |0=>by simp[xA]
 | m + 1 => by
  have:=Iaw gS deps x m;rw[Eah,Zbi];split<;>simp<;>omega
theorem Iav {gS:List (List Int)}{deps:List Int}{x:List Int}{m:Nat}{j:Int}:j∈xA gS deps x m↔∃ k:Nat,k<m/\Xaw gS deps x k=true/\(k:Int)=j:=by
 unfold xA;simp only[Bcz,Bck];constructor
 ·rintro⟨k,hk,h⟩
  split at h
  ·rename_i hb
   have:j=(k:Int):=by simpa using h
   exact⟨k,hk,hb,this.symm⟩
  ·cases h
 ·rintro⟨k,hk,hb,rfl⟩
  exact⟨k,hk,by rw[if_pos hb];simp⟩
theorem Fam (gS:List (List Int))(deps:List Int)(x:List Int):∀ m,kE (xA gS deps x m)
 |0=>by simp[xA,kE]
 | m + 1 => by
  rw[Eah];unfold kE;rw[Ccx];refine⟨Fam gS deps x m,by split<;>simp,fun a ha b hb=>?_⟩;obtain⟨k,hk,-,rfl⟩:=Iav.1 ha;split at hb
  ·have:b=(m:Int):=by simpa using hb
   omega
  ·cases hb
theorem Nas {α:Type}[Inhabited α]{p:α->Bool}{xs:List α}(h:0<=ixF p xs):InB xs (ixF p xs)/\p (atI xs (ixF p xs))=true/\∀ k:Nat,(k:Int)<ixF p xs->p (atI xs (k:Int))=false:=by
 unfold ixF at h ⊢
 cases e:xs.findIdx? p with
 |none=>rw[e]at h;simp at h
 | some i =>
  rw[List.findIdx?_eq_some_iff_getElem]at e;obtain⟨hi,hp,a6n⟩:=e;refine⟨aH.2 hi,by simp only;rw[bC hi];exact hp,fun k hk=>?_⟩;have kb:k<i:=by simp only at hk;omega
  rw[bC (by omega)];have:=a6n k kb;simpa using this
theorem Abu {α:Type}[Inhabited α]{p:α->Bool}{xs:List α}{k:Nat}(hk:k<xs.length)(hp:p (atI xs (k:Int))=true):0<=ixF p xs:=by
 have h:xs.any p=true:=List.any_eq_true.2 ⟨_,at_mem hk,hp⟩;rw[<- dF]at h;exact of_decide_eq_true h
theorem La8 {l:List (List Int)}{x:List Int}(h:0<=iV l x):InB l (iV l x)/\x=atI l (iV l x)/\∀ k:Nat,(k:Int)<iV l x->¬ x=atI l (k:Int):=by
 obtain⟨h1,h2,h3⟩:=Nas (p:=fun y=>decide (x=y)) h;exact⟨h1,of_decide_eq_true h2,fun k hk=>of_decide_eq_false (h3 k hk)⟩
theorem sO {l:List bR}{k:Int}{m:Nat}{y:List Int}(h:y∈gU l k m):∃ i:Nat,i<m/\y=[k,(i:Int)+1]:=by
 unfold gU at h;simp only[Bcz,Bck]at h;obtain⟨i,hi,h⟩:=h;split at h
 ·exact⟨i,hi,by simpa using h⟩
 ·cases h
theorem Dac (l:List bR)(k:Int):∀ m,(gU l k m).Nodup
 |0=>by simp[gU]
 | m + 1 => by
  rw[qO,List.nodup_append];refine⟨Dac l k m,by split<;>simp,fun a ha b hb=>?_⟩;obtain⟨i,hi,rfl⟩:=sO ha;split at hb
  ·have:b=[k,(m:Int)+1]:=by simpa using hb
   rw[this];simp;omega
  ·cases hb
theorem Eat (rows:List (List bR)):∀ m,(Ga1 rows m).Nodup
 |0=>by simp[Ga1]
 | m + 1 => by
  rw[Dad,List.nodup_append];refine⟨Eat rows m,Dac ..,fun a ha b hb=>?_⟩;obtain⟨i,hi,rfl⟩:=sO hb;unfold Ga1 at ha;simp only[Bcz,Bck]at ha;obtain⟨k,hk,ha⟩:=ha;obtain⟨i',eS,rfl⟩:=sO ha;simp;omega
theorem Bba {t:aM}(ht:bG t=true){x:List Int}(hx:x∈bU t.rows) :
  Ra5 (bU t.rows) (Kap t (atI x 0) (atI x 1)) (Kap t (atI x 0) (atI x 1)).length=xA (bU t.rows) (fM t (atI x 0) (atI x 1)).attr.deps x (bU t.rows).length:=by
 refine yI (Aaq ..) (Fam ..) fun j=>?_
 rw[Nac,Iav];obtain⟨-,-,hlen,a1a,-⟩:=iI ht hx;have pC:=eF ht a1a
 have hxe:x=[atI x 0,atI x 1]:=by
  match x,hlen with
  |[a,b],_=>rfl
 have q0:(bU t.rows).Nodup:=Eat ..;have htl:=dM ht;constructor
 ·rintro⟨i,hi,h0,rfl⟩
  have hy:atI (Kap t (atI x 0) (atI x 1)) (i:Int)∈Kap t (atI x 0) (atI x 1):=at_mem hi;generalize atI (Kap t (atI x 0) (atI x 1)) (i:Int)=y at hy h0 ⊢;obtain⟨hb,hye,-⟩:=La8 h0;have hk:=hb.lt;refine⟨(iV (bU t.rows) y).toNat,hk,?_,by omega⟩;have e:(((iV (bU t.rows) y).toNat:Nat):Int)=iV (bU t.rows) y:=by omega
  unfold Xaw;rw[e,<- hye];obtain⟨k,i',h1,h2,h3,rfl⟩:=Gay.1 hy;have a0:atI [(k:Int),(i':Int)+1] 0=k:=rfl;have a1:atI [(k:Int),(i':Int)+1] 1=(i':Int)+1:=rfl;rw[a0,a1];simp only[Zbd,Zb3,decide_eq_false_iff_not,decide_eq_true_eq];refine⟨fun h=>?_,by omega⟩;rw[hxe]at h;simp only[List.cons.injEq,and_true]at h;exact h3 ⟨h.1.symm,h.2.symm⟩
 ·rintro⟨k,hk,hb,rfl⟩
  obtain⟨k',i',h1,h2,h3,h4⟩:=Va7 (at_mem hk);unfold Xaw at hb;rw[h3]at hb;have a0:atI [(k':Int),(i':Int)+1] 0=k':=rfl;have a1:atI [(k':Int),(i':Int)+1] 1=(i':Int)+1:=rfl;rw[a0,a1]at hb;simp only[Zbd,Zb3,decide_eq_false_iff_not,decide_eq_true_eq]at hb
  have cY:[(k':Int),(i':Int)+1]∈Kap t (atI x 0) (atI x 1):=by
   refine Gay.2 ⟨k',i',by omega,by omega,fun h=>hb.1 ?_,rfl⟩;rw[hxe,<- h.1,<- h.2]
  obtain⟨q,hq,he⟩:=Bcm cY;have kA:atI (Kap t (atI x 0) (atI x 1)) (q:Int)=atI (bU t.rows) (k:Int):=by rw[bC hq,he,h3]
  have h0:0<=iV (bU t.rows) (atI (bU t.rows) (k:Int)):=Abu hk (by simp);refine⟨q,hq,by rw[kA];exact h0,?_⟩;rw[kA];obtain⟨gR,pa,-⟩:=La8 h0;generalize iV (bU t.rows) (atI (bU t.rows) (k:Int))=f at *;have hf:=gR.lt;have e:((f.toNat:Nat):Int)=f:=by unfold InB at gR;omega
  rw[<- e,bC hk,bC hf]at pa;have:=(Ccq q0).1 pa;omega
def oV (t:aM)(m:Nat):List (List Int):=(Cck m).map fun i:Nat=>xA (bU t.rows) (fM t (atI (atI (bU t.rows) (i:Int)) 0) (atI (atI (bU t.rows) (i:Int)) 1)).attr.deps (atI (bU t.rows) (i:Int)) (bU t.rows).length
def La7 (t:aM):List (List Int):=oV t (bU t.rows).length
theorem Iay (t:aM)(m:Nat):oV t (m+1)=oV t m++[xA (bU t.rows) (fM t (atI (atI (bU t.rows) (m:Int)) 0) (atI (atI (bU t.rows) (m:Int)) 1)).attr.deps (atI (bU t.rows) (m:Int)) (bU t.rows).length]:=by
 simp[oV,Bcy]
theorem La6 (t:aM)(m:Nat):(oV t m).length=m:=by simp[oV]
def Qar (n:Int)(l:List (List Int))(i:Nat):Bool:=((atI l (i:Int)).length:Int)==2&&inst n (atI (atI l (i:Int)) 0) (atI (atI l (i:Int)) 1)&&!(l.take i).any fun y=>decide (atI l (i:Int)=y)
def qF (n:Int)(l:List (List Int)):Bool:=sU (Qar n l) l.length
def Jbr (t:aM)(b:List (List Int))(x y:List Int):Bool:=zY (fM t (atI x 0) (atI x 1)).cmd (fM t (atI y 0) (atI y 1)).cmd&&decide (0<=iV b x)&&decide (0<=iV b y)&&decide (iV b x<iV b y)
def Xac (t:aM)(a b:List (List Int)):Bool:=sU (fun i=>(a.take i).all fun y=>!Jbr t b (atI a (i:Int)) y) a.length
def Jbq (a b:List (List Int))(t:aM):Bool×Bool:=if bG t&&qF t.n a&&qF t.n b then (Xac t a b,true) else (false,false)
theorem uA {n:Int}{l:List (List Int)}(h:qF n l=true){x:List Int}(hx:x∈l):x.length=2/\inst n (atI x 0) (atI x 1)=true:=by
 obtain⟨i,hi,rfl⟩:=Bcm hx;have:=jV.1 h i hi;unfold Qar at this;rw[bC hi]at this;simp only[Zbd,beq_iff_eq]at this;exact⟨by omega,this.1.2⟩
section
variable {T:Nat->Ent} {β:Type}
theorem Sba {body:Tm β}{ρ:List D}(j s n:Nat)(p:Nat->Bool)(r:List D)
  (h1:∀ i:Nat,s<=i->i<n->decide ((i:Int)<n)=true->Er T body (ρ++[i64 i])=jD (p i) (some (.cont,[i64 ((i:Int)+1)])) (some (.ret,r)))
  (h3:∀ i:Nat,n<=i->decide ((i:Int)<n)=false->Er T body (ρ++[i64 i])=some (.yield j,[])) :
  Er T (.loop [.c (i64 s)] body) ρ=jD (sU (fun i=>decide (i<s)||p i) n) (some (.yield j,[])) (some (.ret,r)):=by
 obtain⟨q,h4,h5⟩:=Taa (T:=T) (body:=body) (ρ:=ρ) (fun i:Nat=>n-i) (fun i=>s<=i/\∀ k,s<=k->k<i->k<n->p k=true) (fun i=>[i64 (i:Nat)])
  (fun q=>q=jD (sU (fun i=>decide (i<s)||p i) n) (.yield j,[]) (.ret,r))
  (fun i ⟨hs,cU⟩=>by
   rcases Zbz i n with hlt|mj
   ·have e:=h1 i hs hlt (by simp;omega)
    cases hp:p i with
    | true =>
     rw[hp]at e
     exact⟨_,e,.inl ⟨rfl,i+1,⟨by omega,fun k h2 h6 h7=>by
      rcases Zbz k i with h8|h8
      ·exact cU k h2 h8 h7
      ·obtain rfl:k=i:=by omega
       exact hp⟩,by omega,rfl⟩⟩
    | false =>
     rw[hp]at e;have hf:sU (fun i=>decide (i<s)||p i) n=false:=Eaz.2 ⟨i,hlt,by simp[hp];omega⟩;exact⟨_,e,.inr ⟨by simp,by rw[hf];rfl⟩⟩
   ·have ht:sU (fun i=>decide (i<s)||p i) n=true:=jV.2 fun k hk=>by
     by_cases h2:k<s
     ·simp[h2]
     ·rw[cU k (by omega) (by omega) hk,Cct]
    exact⟨_,h3 i mj (by simp;omega),.inr ⟨by simp,by rw[ht];rfl⟩⟩)
  n s (by omega) ⟨Zbr _,fun k h1 h2 _=>by omega⟩ [.c (i64 s)] rfl
 rw[h4,h5];cases sU (fun i=>decide (i<s)||p i) n<;>rfl
end
def Fai (n:Int):Prop:=0<=n/\n<=1000000
theorem Aby {n:Int}(h:dG n=true):Fai n:=by have:=aY h;unfold Fai;omega
theorem Zax (k:Int):k=1\/k=2\/k=3\/(k==1)=false/\(k==2)=false/\(k==3)=false:=by
 by_cases h1:k=1
 ·exact .inl h1
 by_cases h2:k=2
 ·exact .inr (.inl h2)
 by_cases h3:k=3
 ·exact .inr (.inr (.inl h3))
 ·exact .inr (.inr (.inr ⟨by simpa using h1,by simpa using h2,by simpa using h3⟩))
def Saz (xs:List Int)(i:Nat):Bool:=!(decide (0<i)&&decide (atI xs (i:Int)<=atI xs ((i:Int)-1)))
def Jbi (xs:List Int)(lo hi:Int):Bool:=sU (fun i=>inR (atI xs (i:Int)) lo hi&&Saz xs i) xs.length
def Abk (p l:gY):Bool:=decide (l.rep<p.rep)||(p.rep==l.rep&&decide (l.no<=p.no))
def Iak (n me:Int)(l:gY):Bool :=
  inst n l.rep l.no&&inR l.ballot 0 9999&&Jbi l.who 0 (n-1)&&lF l.who me&&lY n l.first&&lY n l.attr &&
  (if l.phase==1 then qY l.cmd&&(l.seen.length:Int)==0 else if l.phase==2 then qY l.cmd&&(l.seen.length:Int)==0&&!l.same&&decide (l.first=l.attr)
   else if l.phase==3 then decide (l.cmd=⟨0,0,0,0,0⟩)&&decide (l.first=none0 n)&&decide (l.attr=none0 n)&&!l.same&&(l.seen.length:Int)==l.who.length&&l.seen.all fun r=>rowOk n r&&!(r.state==3)
   else false)
def Qah (n me:Int)(ls:List gY)(i:Nat):Bool:=Iak n me (atI ls (i:Int))&&!(decide (0<(i:Int))&&Abk (atI ls ((i:Int)-1)) (atI ls (i:Int)))
def Sa1 (r:nY):Bool:=bG r.table&&inR r.me 0 (r.table.n-1)&&sU (Qah r.table.n r.me r.leads) r.leads.length
def Ja1 (n:Int)(l:List dD)(i:Nat):Bool:=inst n (atI l (i:Int)).rep (atI l (i:Int)).no&&qY (atI l (i:Int)).cmd&&!((atI l (i:Int)).cmd.kind==0)&&!(l.take i).any fun b=>b.rep==(atI l (i:Int)).rep&&b.no==(atI l (i:Int)).no
def Ra2 (n:Int)(l:List dD):Bool:=sU (Ja1 n l) l.length
def Pa2 (n:Int)(l:List nY)(i:Nat):Bool:=Sa1 (atI l (i:Int))&&(atI l (i:Int)).me==(i:Int)&&(atI l (i:Int)).table.n==n
def vI (t:Aa9):Bool:=dG t.reps.length&&!decide (80<(t.bag.length:Int))&&Ra2 t.reps.length t.asked&&sU (Pa2 t.reps.length t.reps) t.reps.length&&t.bag.all fun m=>zD t.reps.length m
def Uaw (l:gY):Prop:=l.first.deps.length<=10000000000/\l.attr.deps.length<=10000000000/\l.who.length<=10000000000/\Zac l.seen
def Ma4 (l:List gY):Prop:=l.length<=10000000000/\∀ x∈l,Uaw x
def Lbl (r:nY):Prop:=mI r.table.rows/\Ma4 r.leads
def uX (l:List nY):Prop:=l.length<=10000000000/\∀ x∈l,Lbl x
def Lab (l:List pO):Prop:=l.length<=10000000000/\∀ x∈l,x.attr.deps.length<=10000000000
theorem Zaf {l:gY}(h:aV l<=1048576):Uaw l:=by
 rw[Oa6]at h;exact⟨by omega,by omega,by omega,Pas (by omega)⟩
theorem Wa7 {l:List gY}(h:szL aV l<=1048576):Ma4 l:=by
 refine⟨Aci (iB (f:=aV)) (by omega),fun x hx=>Zaf ?_⟩;have:=gP (f:=aV) hx;omega
theorem Fbn {r:nY}(h:aZ r<=1048576):Lbl r:=by
 rw[Uai]at h;exact⟨Fbm (by omega),Wa7 (by omega)⟩
theorem Zad {l:List nY}(h:szL aZ l<=1048576):uX l:=by
 refine⟨Aci (iB (f:=aZ)) (by omega),fun x hx=>Fbn ?_⟩;have:=gP (f:=aZ) hx;omega
theorem Zae {l:List pO}(h:szL bE l<=1048576):Lab l:=by
 refine⟨Aci (iB (f:=bE)) (by omega),fun x hx=>?_⟩;have h2:=gP (f:=bE) hx;rw[Uaj]at h2;omega
def Yal:List Int->List Int->Option Int
 |[],_=>none
 |_::_,[]=>some 1
 |x::xs,y::ys=>if x<y then some (-1) else if y<x then some 1 else Yal xs ys
def Rbs (xs ys:List Int):Int:=match Yal xs ys with
 |some c=>c
 |none=>if decide ((xs.length:Int)<ys.length) then -1 else 0
def Kbh (a b:Int):Int:=if a<b then -1 else if b<a then 1 else 0
theorem Cbb {xs ys:List Int}{i:Nat}(h:i<xs.length)(h2:i<ys.length):Yal (xs.drop i) (ys.drop i)=if atI xs (i:Int)<atI ys (i:Int) then some (-1) else if atI ys (i:Int)<atI xs (i:Int) then some 1 else Yal (xs.drop (i+1)) (ys.drop (i+1)):=by
 rw[Acy h,Acy h2,bC h,bC h2];rfl
theorem Hbe {xs ys:List Int}{i:Nat}(h:i<xs.length)(h2:ys.length<=i):Yal (xs.drop i) (ys.drop i)=some 1:=by
 rw[Acy h,List.drop_eq_nil_of_le h2];rfl
theorem Yb8 (a b c d:Int):decide (Rbs [a,b] [c,d]<=0)=(decide (a<c)||(c==a&&decide (b<=d))):=by
 unfold Rbs Yal;by_cases h1:a<c
 ·simp[h1]
 ·rw[if_neg h1]
  by_cases h2:c<a
  ·simp[h1,h2];omega
  ·rw[if_neg h2]
   have:c=a:=by omega
   subst this;unfold Yal;by_cases h3:b<d
   ·simp[h3];omega
   ·rw[if_neg h3]
    by_cases h4:d<b
    ·simp[h4]
    ·rw[if_neg h4]
     simp[Yal];omega
theorem jM {t:Aa9}(h:vI t=true){i:Nat}(hi:i<t.reps.length):bG (atI t.reps (i:Int)).table=true/\(atI t.reps (i:Int)).table.n=t.reps.length/\dG (t.reps.length:Int)=true:=by
 unfold vI at h;simp only[Zbd]at h;have h2:=jV.1 h.1.2 i hi;unfold Pa2 Sa1 at h2;simp only[Zbd,beq_iff_eq]at h2;exact⟨h2.1.1.1.1,h2.2,h.1.1.1.1⟩
theorem oJ {t:Aa9}(h:vI t=true):dG (t.reps.length:Int)=true:=by
 unfold vI at h;simp only[Zbd]at h;exact h.1.1.1.1
theorem Hbq {α β:Type}(xs:List α)(ys:List β)(p:α->β->Bool):(xs.all fun x=>ys.all fun y=>p x y)=ys.all fun y=>xs.all fun x=>p x y:=by
 rw[Bcx];simp only[Zb6];exact⟨fun h y hy x hx=>h x hx y hy,fun h x hx y hy=>h y hy x hx⟩
def Oah (t u:aM)(x:List Int):Bool :=
 !((fM u (atI x 0) (atI x 1)).state==3&&(!decide ((fM t (atI x 0) (atI x 1)).cmd=(fM u (atI x 0) (atI x 1)).cmd)||!decide ((fM t (atI x 0) (atI x 1)).attr=(fM u (atI x 0) (atI x 1)).attr)))
def Kbo (t:Aa9):Bool:=sU (fun i=>(bU (atI t.reps (i:Int)).table.rows).all fun x=>(t.reps.take i).all fun b=>Oah (atI t.reps (i:Int)).table b.table x) t.reps.length
def setRow (w:bR):bR:=⟨0,0,w.state,w.cmd,w.attr⟩
def Hb8 (t acc:aM)(x:List Int):aM:=Ja6 acc (atI x 0) (atI x 1) (setRow (fM t (atI x 0) (atI x 1)))
def Kb8 (t acc:aM):aM:=(bU t.rows).foldl (Hb8 t) acc
def Zak (t:Aa9):aM:=t.reps.foldl (fun acc R=>Kb8 R.table acc) ⟨t.reps.length,Zbq (t.reps.length:Int).toNat []⟩
def Yav (n:Int)(t:aM):Prop:=t.n=n/\(t.rows.length:Int)=n/\∀ l∈t.rows,l.length<=6/\∀ r∈l,r.attr.deps.length<=5
theorem Wae {n:Int}(h:0<=n):Yav n ⟨n,Zbq n.toNat []⟩:=by
 refine⟨rfl,by simp;omega,fun l hl=>?_⟩;obtain⟨-,rfl⟩:=List.mem_replicate.1 hl;exact⟨by simp,fun r hr=>by cases hr⟩
theorem Hbs {n:Int}{t:aM}(h:Yav n t)(hn:n<=5){rep no:Int}{r:bR}(hb:InB t.rows rep)(h1:1<=no)(h2:no<=6)(hr:r.attr.deps.length<=5):Yav n (Ja6 t rep no r):=by
 obtain⟨e1,e2,e3⟩:=h;refine⟨e1,by simp only[Ja6,iJ,Bce];exact e2,fun l hl=>?_⟩;simp only[Ja6,iJ]at hl
 rcases Bcj hl with hl|rfl
 ·exact e3 l hl
 ·obtain⟨f1,f2⟩:=e3 _ (fT hb)
  have f3:=Jab (n:=t.n) (l:=atI t.rows rep) (no:=no) (by omega);refine⟨by rw[Bce];omega,fun q hq=>?_⟩
  rcases Bcj hq with hq|rfl
  ·unfold ext at hq
   rcases List.mem_append.1 hq with hq|hq
   ·exact f2 q hq
   ·obtain⟨-,rfl⟩:=List.mem_replicate.1 hq
    simp only[row0,none0,Acj];omega
  ·exact hr
theorem Cbr {n:Int}{t:aM}(h:Yav n t)(hn:n<=5):mI t.rows:=by
 obtain⟨e1,e2,e3⟩:=h;exact⟨by omega,fun l hl=>⟨by have:=(e3 l hl).1;omega,fun r hr=>by have:=(e3 l hl).2 r hr;omega⟩⟩
theorem Ma5 {n:Int}{t acc:aM}(ht:bG t=true)(hN:t.n=n)(hn:n<=5)(h:Yav n acc){x:List Int}(hx:x∈bU t.rows):Yav n (Hb8 t acc x):=by
 obtain⟨-,-,-,xi,-⟩:=iI ht hx;have xr:=bJ xi;have xd:=eF ht xi;have e2:=h.2.1;refine Hbs h hn ?_ xr.2.2.1 xr.2.2.2 ?_
 ·unfold InB;omega
 ·show (fM t (atI x 0) (atI x 1)).attr.deps.length<=5
  omega
theorem Caz {α σ:Type}{P:σ->Prop}{f:σ->α->σ}:∀ {xs:List α} {s:σ},(∀ s x,x∈xs->P s->P (f s x))->P s->P (xs.foldl f s)
 |[],s,_,h=>h
 |x::xs,s,hf,h=>Caz (xs:=xs) (fun s y hy=>hf s y (Zbn _ hy)) (hf s x Zbu h)
theorem Ua0 {n:Int}{t acc:aM}(ht:bG t=true)(hN:t.n=n)(hn:n<=5)(h:Yav n acc):Yav n (Kb8 t acc) :=
 Caz (fun s x hx hs=>Ma5 ht hN hn hs hx) h
theorem Vac {α:Type}{xs:List α}{k:Int}{a x:α}(h:x∈iJ xs k a):x∈xs\/x=a:=Bcj h
theorem Iag {T:Nat->Ent}{β γ:Type}{body:Tm β}{ρ:List D}{init:List aL}(m:γ->Nat)(inv:γ->Prop)(vs:γ->List D)(Q:Kind×List D->Prop)(c0:γ)(h0:init.map (·.val ρ)=vs c0)(hi:inv c0)
  (h:∀ c,inv c->(∃ c',Er T body (ρ++vs c)=some (.cont,vs c')/\inv c'/\m c'<m c)\/(∃ q,Er T body (ρ++vs c)=some q/\q.1≠.cont/\Q q)):∃ q,Er T (.loop init body) ρ=some q/\Q q :=
 Taa (T:=T) (body:=body) (ρ:=ρ) m inv vs Q (fun c hc=>by
  rcases h c hc with ⟨c',h2,h3,h4⟩|⟨q,h2,h3,h4⟩
  ·exact⟨_,h2,.inl ⟨rfl,c',h3,h4,rfl⟩⟩
  ·exact⟨_,h2,.inr ⟨h3,h4⟩⟩) (m c0) c0 (Zbr _) hi init h0
theorem Kbl {α:Type}[Inhabited α]{xs ys:List α}{k:Int}(h0:0<=k)(h:k<(xs.length:Int)):atI (xs++ys) k=atI xs k:=by
 unfold atI;rw[Zbk,Zbk,List.getElem?_append_left (by omega)]
theorem Kbk {α:Type}[Inhabited α]{xs:List α}{a:α}{n:Nat}{k:Int}(h:(xs.length:Int)<=k)(h2:k<(xs.length:Int)+n):atI (xs++Zbq n a) k=a:=by
 unfold atI;rw[Zbk,Zbw (by omega),List.getElem?_replicate_of_lt (by omega)];rfl
theorem Oax {t:aM}{rep no:Int}{r:bR}(h:bG t=true)(hi:inst t.n rep no=true){k i:Int}(hk:inst t.n k i=true):fM (Ja6 t rep no r) k i=if k=rep/\i=no then r else fM t k i:=by
 obtain⟨r1,r2,r3,r4⟩:=bJ hi;obtain⟨k1,k2,k3,k4⟩:=bJ hk;have hb:=dL h hi;have gR:=dL h hk;have hl:=Jab (n:=t.n) (l:=atI t.rows rep) (no:=no) (by omega);unfold fM;simp only[Ja6];by_cases oi:k=rep
 ·subst oi
  have e:atI (iJ t.rows k (iJ (ext t.n (atI t.rows k) no) (no-1) r)) k=iJ (ext t.n (atI t.rows k) no) (no-1) r:=Bab.1 hb;simp only[e,yH,true_and];by_cases j9:i=no
  ·subst j9
   rw[if_pos (by omega),if_pos rfl];exact Bab.1 (by unfold InB;omega)
  ·rw[if_neg j9]
   rw[Ibs (by omega) (by omega) (by omega)];by_cases h1:i<=((atI t.rows k).length:Int)
   ·rw[if_pos (by omega),if_pos h1]
    exact Kbl (by omega) (by omega)
   ·rw[if_neg h1]
    split
    ·exact Kbk (by omega) (by omega)
    ·rfl
 ·rw[if_neg (fun hc=>oi hc.1)]
  have e:atI (iJ t.rows rep (iJ (ext t.n (atI t.rows rep) no) (no-1) r)) k=atI t.rows k:=Ibs (by omega) (by omega) (fun e=>oi e.symm);simp only[e]
theorem Zao {n:Int}(h:dG n=true):rowOk n (row0 n)=true:=by
 have hn:=aY h
 rcases hn with rfl|rfl<;>decide
theorem Saa {t:aM}{rep no:Int}{r:bR}(h:bG t=true)(hi:inst t.n rep no=true)(hr:rowOk t.n r=true):bG (Ja6 t rep no r)=true:=by
 obtain⟨r1,r2,r3,r4⟩:=bJ hi;have hb:=dL h hi;have hg:=bA h;have hlen:=dM h;have hl:=Jab (n:=t.n) (l:=atI t.rows rep) (no:=no) (by omega);obtain⟨h6,ub⟩:=dV h (fT hb);simp only[bG,Ja6,Zbd,Zb6,beq_iff_eq,decide_eq_true_eq,yH];refine⟨⟨hg,hlen⟩,fun l jh=>?_⟩
 rcases Vac jh with jh|rfl
 ·obtain⟨q1,q2⟩:=dV h jh
  exact⟨q2,by omega⟩
 ·refine⟨fun x hx=>?_,by rw[yH];omega⟩
  rcases Vac hx with hx|rfl
  ·unfold ext at hx
   rcases List.mem_append.1 hx with hx|hx
   ·exact ub x hx
   ·rw[Bc4 hx]
    exact Zao hg
  ·exact hr
theorem Baq {t:aM}(h:bG t=true):mI t.rows:=by
 have hg:=aY (bA h);have hl:=dM h;refine⟨by omega,fun l jh=>?_⟩;obtain⟨q1,q2⟩:=dV h jh;exact⟨by omega,fun r hr=>by have:=Lae (q2 r hr) (bA h);omega⟩
def u8 (c:UInt8):D:=.int .u8 (c.toNat:Nat)
def prL (y:List Int):Int×Int:=(atI y 0,atI y 1)
def toL (p:Int×Int):List Int:=[p.1,p.2]
theorem qQ {y:List Int}(h:y.length=2):toL (prL y)=y:=by
 match y,h with
 |[a,b],_=>rfl
theorem Zav (p:Int×Int):prL (toL p)=p:=rfl
def ltL (y z:List Int):Prop:=ltQ (prL y) (prL z)=true
theorem mY {y z:List Int}:ltL y z↔atI y 0<atI z 0\/(atI y 0=atI z 0/\atI y 1<atI z 1):=Nai
def pQ (l:List (List Int)):Prop:=l.Pairwise ltL
theorem vV:∀ {xs ys:List (List Int)},pQ xs->pQ ys->(∀ x,x∈xs↔x∈ys)->xs=ys
 |[],[],_,_,_=>rfl
 |[],y::ys,_,_,h=>by have:=(h y).2 Zbu;cases this
 |x::xs,[],_,_,h=>by have:=(h x).1 Zbu;cases this
 | x :: xs, y :: ys, hx, hy, h => by
  unfold pQ at hx hy;rw[Bc6]at hx hy
  have e:x=y:=by
   rcases List.mem_cons.1 ((h x).1 Zbu) with h1|h1
   ·exact h1
   ·rcases List.mem_cons.1 ((h y).2 Zbu) with h2|h2
    ·exact h2.symm
    ·have h3:=mY.1 (hx.1 y h2)
     have h4:=mY.1 (hy.1 x h1);omega
  subst e;congr 1;refine vV hx.2 hy.2 fun z=>?_
  constructor
  ·intro hz
   rcases List.mem_cons.1 ((h z).1 (Zbn _ hz)) with h1|h1
   ·subst h1
    have:=mY.1 (hx.1 z hz);omega
   ·exact h1
  ·intro hz
   rcases List.mem_cons.1 ((h z).2 (Zbn _ hz)) with h1|h1
   ·subst h1
    have:=mY.1 (hy.1 z hz);omega
   ·exact h1
theorem Hax {l:List (List Int)}(h2:∀ y∈l,y.length=2)(hn:l.Nodup):pQ ((lL id (l.map prL)).map toL)/\∀ y,y∈(lL id (l.map prL)).map toL↔y∈l:=by
 have hp:=iD id (l.map prL);have hs:=vU id (l.map prL)
 have q0:(l.map prL).Nodup:=by
  unfold List.Nodup;rw[Ccg];refine List.Pairwise.imp_of_mem (fun {a b} ha hb pz e=>pz ?_) hn;rw[<- qQ (h2 a ha),<- qQ (h2 b hb),e]
 have a6e:(lL id (l.map prL)).Nodup:=hp.nodup_iff.2 q0;constructor
 ·unfold pQ
  rw[Ccg];have h3:=List.pairwise_and_iff.2 ⟨hs,a6e⟩;refine h3.imp fun {a b} pz=>?_
  unfold ltL;rw[Zav,Zav];have h4:ltQ b a=false:=pz.1
  cases h5:ltQ a b with
  |true=>rfl
  |false=>exact absurd (Vad h5 h4) pz.2
 ·intro y
  rw[List.mem_map];constructor
  ·rintro⟨p,hp1,rfl⟩
   obtain⟨z,hz,rfl⟩:=List.mem_map.1 (hp.mem_iff.1 hp1);rw[qQ (h2 z hz)];exact hz
  ·intro hy
   exact⟨prL y,hp.mem_iff.2 (List.mem_map.2 ⟨y,hy,rfl⟩),qQ (h2 y hy)⟩
theorem Ua5 (l:List (Int×Int)):rL (l.map toL)=.rows 1 (l.map fun p=>[Ha6 p]):=by
 simp only[rL,List.map_map];rfl
theorem Kbr {l:List (List Int)}(h2:∀ y∈l,y.length=2)(hl:l.length<=1000000):Hay [rL l]=some [rL ((lL id (l.map prL)).map toL)]:=by
 have e:l=(l.map prL).map toL:=by
  rw[List.map_map]
  conv=>lhs;rw[<- List.map_id l]
  exact Ccl fun y hy=>(qQ (h2 y hy)).symm
 have e1:rL l=.rows 1 ((l.map prL).map fun p=>[Ha6 p]):=by rw[<- Ua5,<- e]
 rw[e1,Ua5];simp only[Hay,Lao,Option.bind_some];rw[if_pos (by rw[Zbt];exact hl)]
def fB (n:Int)(y:List Int):Prop:=y.length=2/\inst n (atI y 0) (atI y 1)=true
def uP (n:Nat):List (List Int):=(Cck n).flatMap fun k:Nat=>(Cck 6).map fun i:Nat=>[(k:Int),(i:Int)+1]
theorem Aa8 {n:Nat}{y:List Int}:y∈uP n↔fB n y:=by
 unfold uP fB;simp only[Bcz,Bck,List.mem_map];constructor
 ·rintro⟨k,hk,i,hi,rfl⟩
  refine⟨rfl,?_⟩;simp only[atI,inst,inR,Zbd,decide_eq_true_eq];simp;omega
 ·rintro⟨h1,h2⟩
  match y,h1 with
  | [a, b], _ =>
   have h3:=bJ h2;simp only[atI]at h3;simp at h3;refine⟨a.toNat,by omega,(b-1).toNat,by omega,?_⟩;rw[show ((a.toNat:Nat):Int)=a by omega,show (((b-1).toNat:Nat):Int)=b-1 by omega,show b-1+1=b by omega]
theorem Ta5 (n:Nat):(uP n).length=6*n:=by
 unfold uP;rw[List.length_flatMap];simp[List.map_const'];omega
theorem Fa0 (n:Nat):pQ (uP n):=by
 unfold pQ uP;rw[List.pairwise_flatMap];refine⟨fun k hk=>?_,?_⟩
 ·rw[Ccg]
  refine List.pairwise_lt_range.imp fun {a b} pz=>?_
  rw[mY];simp[atI];omega
 ·refine List.pairwise_lt_range.imp fun {a b} pz=>?_
  intro x hx y hy;obtain⟨i,hi,rfl⟩:=List.mem_map.1 hx;obtain⟨j,hj,rfl⟩:=List.mem_map.1 hy;rw[mY];simp[atI];omega
theorem lQ {α:Type}[DecidableEq α]:∀ {l m:List α},l.Nodup->(∀ x∈l,x∈m)->l.length<=m.length
 |[],_,_,_=>Bca _
 | x :: l, m, hn, hs => by
  rw[List.nodup_cons]at hn;have hx:=hs x Zbu
  have:=lQ (l:=l) (m:=m.erase x) hn.2 fun y hy=>by
   have cJ:y≠x:=fun e=>hn.1 (by rw[<- e];exact hy)
   exact (List.mem_erase_of_ne cJ).2 (hs y (Zbn _ hy))
  have h1:=List.length_erase_of_mem hx;have h2:=Ccd hx;simp only[Zbs];omega
theorem Cau {n:Int}{l:List (List Int)}(hg:dG n=true)(hn:l.Nodup)(h:∀ y∈l,fB n y):l.length<=30:=by
 have h1:=aY hg;have e:((n.toNat:Nat):Int)=n:=by omega
 have:=lQ hn (m:=uP n.toNat) fun y hy=>Aa8.2 (by rw[e];exact h y hy)
 rw[Ta5]at this;omega
def oU (k:Int)(m:Nat):List (List Int):=(Cck m).map fun i:Nat=>[k,(i:Int)+1]
def zJ (deps:List Int)(m:Nat):List (List Int):=(Cck m).flatMap fun k:Nat=>oU k (atI deps (k:Int)).toNat
theorem Qay (k:Int)(m:Nat):oU k (m+1)=oU k m++[[k,(m:Int)+1]]:=by simp[oU,Bcy]
theorem La5 (deps:List Int)(m:Nat):zJ deps (m+1)=zJ deps m++oU m (atI deps (m:Int)).toNat:=by simp[zJ,Bcy,Bcn]
def vL (t:aM)(x:List Int):List (List Int):=zJ (fM t (atI x 0) (atI x 1)).attr.deps (fM t (atI x 0) (atI x 1)).attr.deps.length
theorem Iat (k:Int)(m:Nat):(oU k m).length=m:=by simp[oU]
theorem Iau {deps:List Int}(h:∀ d∈deps,d<=6):∀ {m},m<=deps.length->(zJ deps m).length<=6*m
 |0,_=>by simp[zJ]
 | m + 1, hm => by
  have h1:=Iau h (m:=m) (by omega);have h3:=h _ (at_mem (show m<deps.length by omega));rw[La5,Zbi,Iat];omega
theorem Qaz {deps:List Int}{m:Nat}{y:List Int}:y∈zJ deps m↔∃ k i:Nat,k<m/\(i:Int)<atI deps (k:Int)/\y=[(k:Int),(i:Int)+1]:=by
 unfold zJ oU;simp only[Bcz,Bck,List.mem_map];constructor
 ·rintro⟨k,hk,i,hi,rfl⟩
  exact⟨k,i,hk,by omega,rfl⟩
 ·rintro⟨k,i,hk,hi,rfl⟩
  exact⟨k,hk,i,by omega,rfl⟩
theorem Xau {t:aM}(ht:bG t=true){x y:List Int}(hx:fB t.n x)(hy:y∈vL t x):fB t.n y:=by
 unfold vL at hy;obtain⟨k,i,hk,hi,rfl⟩:=Qaz.1 hy;have h1:=eF ht hx.2;have h2:=nU (mW ht hx.2) (bA ht) _ (at_mem hk);refine⟨rfl,?_⟩;simp only[atI,inst,inR,Zbd,decide_eq_true_eq]at h2 ⊢;simp only[atI]at hi;simp;omega
theorem Ab3 {t:aM}(ht:bG t=true){x:List Int}(hx:fB t.n x):(vL t x).length<=30:=by
 have h1:=eF ht hx.2;have h2:=nU (mW ht hx.2) (bA ht);have h3:=aY (bA ht);have:=Iau (fun d hd=>(h2 d hd).2) (Zbr (fM t (atI x 0) (atI x 1)).attr.deps.length);unfold vL;omega
theorem Jah {t:aM}{x y:List Int}(hx:x.length=2):y∈Kap t (atI x 0) (atI x 1)↔y∈vL t x/\y≠x:=by
 unfold Kap vL;rw[Gay,Qaz]
 match x,hx with
 | [a, b], _ =>
  constructor
  ·rintro⟨k,i,h1,h2,h3,rfl⟩
   refine⟨⟨k,i,h1,h2,rfl⟩,fun e=>h3 ?_⟩;simp only[List.cons.injEq,and_true]at e;exact e
  ·rintro⟨⟨k,i,h1,h2,rfl⟩,cJ⟩
   refine⟨k,i,h1,h2,fun e=>cJ ?_,rfl⟩;have e1:(k:Int)=a:=e.1;have e2:(i:Int)+1=b:=e.2;rw[e1,e2]
def zK (t:aM)(y:List Int):Bool:=(fM t (atI y 0) (atI y 1)).state==3
inductive Fa1 (t:aM) (x:List Int):List Int->Prop
 |base:Fa1 t x x
 |step {z y:List Int} (h:Fa1 t x z) (hc:zK t z=true) (hy:y∈vL t z):Fa1 t x y
theorem Fa1.inst {t:aM}(ht:bG t=true){x y:List Int}(hx:fB t.n x)(h:Fa1 t x y):fB t.n y:=by
 induction h with
 |base=>exact hx
 |step _ _ hy ih=>exact Xau ht ih hy
open Classical in
noncomputable def vG (t:aM)(x:List Int):List (List Int):=(uP t.n.toNat).filter fun y=>decide (Fa1 t x y/\zK t y=false)
theorem Jav (t:aM)(x:List Int):pQ (vG t x):=by
 unfold vG;exact (Fa0 _).filter _
open Classical in
theorem Mad {t:aM}(ht:bG t=true){x y:List Int}(hx:fB t.n x):y∈vG t x↔Fa1 t x y/\zK t y=false:=by
 have h1:=aY (bA ht);have e:((t.n.toNat:Nat):Int)=t.n:=by omega
 unfold vG;rw[Ccw,decide_eq_true_eq,Aa8,e];exact⟨fun h=>h.2,fun h=>⟨h.1.inst ht hx,h⟩⟩
theorem Aam {l:List (List Int)}(h:pQ l):l.Nodup:=by
 unfold pQ at h;refine h.imp fun {a b} pz e=>?_
 subst e;have:=mY.1 pz;omega
structure BSt where
 met:List (List Int)
 out:List (List Int)
 wait:List (List Int)
def Jaw (t:aM)(s:BSt)(y:List Int):BSt:=if s.met.any (fun z=>decide (y=z)) then s else if zK t y then ⟨s.met++[y],s.out,s.wait++[y]⟩ else ⟨s.met++[y],s.out++[y],s.wait⟩
def Lba (t:aM)(s:BSt):BSt:=let r:=(vL t (atI s.wait 0)).foldl (Jaw t) s;⟨r.met,r.out,r.wait.drop 1⟩
structure BPre (t:aM) (x:List Int) (s:BSt):Prop where
 base:x∈s.met
 nd:s.met.Nodup
 rch:∀ y∈s.met,Fa1 t x y
 out:∀ y,y∈s.out↔y∈s.met/\zK t y=false
 ond:s.out.Nodup
 wm:∀ y∈s.wait,y∈s.met/\zK t y=true
structure BInv (t:aM) (x:List Int) (s:BSt):Prop extends BPre t x s where
 cl:∀ z∈s.met,zK t z=true->z∈s.wait\/∀ y∈vL t z,y∈s.met
theorem Eay {l:List (List Int)}{y:List Int}:(l.any fun z=>decide (y=z))=true↔y∈l:=by
 rw[Ccc];constructor
 ·rintro⟨z,h1,h2⟩
  rw[of_decide_eq_true h2];exact h1
 ·exact fun h=>⟨y,h,by simp⟩
theorem Oag {l:List (List Int)}{y:List Int}(h:y∉l):(l.any fun z=>decide (y=z))=false:=by
 cases e:l.any fun z=>decide (y=z) with
 |false=>rfl
 |true=>exact absurd (Eay.1 e) h
theorem rX {l:List (List Int)}{y:List Int}(h:l.Nodup)(hy:y∉l):(l++[y]).Nodup:=by
 rw[List.nodup_append];refine⟨h,by simp,fun a ha b hb e=>?_⟩;rw[List.mem_singleton.1 hb]at e;exact hy (e▸ha)
theorem Ra0 {t:aM}{x:List Int}{s:BSt}(h:BPre t x s){y:List Int}(hy:Fa1 t x y) :
  BPre t x (Jaw t s y)/\y∈(Jaw t s y).met/\(∀ z∈s.met,z∈(Jaw t s y).met)/\(∃ w,(Jaw t s y).wait=s.wait++w)/\(∀ z∈(Jaw t s y).met,zK t z=true->z∈(Jaw t s y).wait\/z∈s.met) /\
   (Jaw t s y).wait.length+s.met.length<=s.wait.length+(Jaw t s y).met.length:=by
 unfold Jaw;by_cases hm:y∈s.met
 ·rw[Eay.2 hm,if_pos rfl]
  exact⟨h,hm,fun z hz=>hz,⟨[],by simp⟩,fun z hz _=>.inr hz,Zbr _⟩
 ·rw[Oag hm]
  simp only[Zbg,if_false];have cY:∀ z,z∈s.met++[y]↔z∈s.met\/z=y:=fun z=>by simp
  cases hc:zK t y with
  | true =>
   simp only[if_true];refine⟨⟨Zbe _ h.base,rX h.nd hm,fun z hz=>?_,fun z=>?_,h.ond,fun z hz=>?_⟩,by simp,fun z hz=>Zbe _ hz,⟨[y],rfl⟩,fun z hz _=>?_,by simp<;>omega⟩
   ·rcases (cY z).1 hz with hz|rfl
    ·exact h.rch z hz
    ·exact hy
   ·rw[h.out,cY]
    constructor
    ·exact fun ⟨h1,h2⟩=>⟨.inl h1,h2⟩
    ·rintro⟨h1|rfl,h2⟩
     ·exact⟨h1,h2⟩
     ·rw[hc]at h2;cases h2
   ·rcases List.mem_append.1 hz with hz|hz
    ·exact⟨Zbe _ (h.wm z hz).1,(h.wm z hz).2⟩
    ·rw[List.mem_singleton.1 hz]
     exact⟨by simp,hc⟩
   ·rcases (cY z).1 hz with hz|rfl
    ·exact .inr hz
    ·exact .inl (by simp)
  | false =>
   simp only[Zbg,if_false];refine⟨⟨Zbe _ h.base,rX h.nd hm,fun z hz=>?_,fun z=>?_,rX h.ond (fun hz=>hm ((h.out y).1 hz).1),fun z hz=>?_⟩,by simp,fun z hz=>Zbe _ hz,⟨[],by simp⟩,fun z hz hcz=>?_,by simp<;>omega⟩
   ·rcases (cY z).1 hz with hz|rfl
    ·exact h.rch z hz
    ·exact hy
   ·rw[Bc8,h.out,cY,Zbp]
    constructor
    ·rintro (⟨h1,h2⟩|rfl)
     ·exact⟨.inl h1,h2⟩
     ·exact⟨.inr rfl,hc⟩
    ·rintro⟨h1|rfl,h2⟩
     ·exact .inl ⟨h1,h2⟩
     ·exact .inr rfl
   ·exact⟨Zbe _ (h.wm z hz).1,(h.wm z hz).2⟩
   ·rcases (cY z).1 hz with hz|rfl
    ·exact .inr hz
    ·rw[hc]at hcz;cases hcz
theorem Jax {t:aM}{x:List Int}:∀ {ys:List (List Int)} {s:BSt},BPre t x s->(∀ y∈ys,Fa1 t x y) ->
  BPre t x (ys.foldl (Jaw t) s)/\(∀ y∈ys,y∈(ys.foldl (Jaw t) s).met)/\(∀ z∈s.met,z∈(ys.foldl (Jaw t) s).met)/\(∃ w,(ys.foldl (Jaw t) s).wait=s.wait++w)/\(∀ z∈(ys.foldl (Jaw t) s).met,zK t z=true->z∈(ys.foldl (Jaw t) s).wait\/z∈s.met) /\
   (ys.foldl (Jaw t) s).wait.length+s.met.length<=s.wait.length+(ys.foldl (Jaw t) s).met.length
 |[],s,h,_=>⟨h,by simp,fun z hz=>hz,⟨[],by simp⟩,fun z hz _=>.inr hz,Zbr _⟩
 | y :: ys, s, h, hr => by
  obtain⟨h1,h2,h3,⟨w,h4⟩,h5,h6⟩:=Ra0 h (hr y Zbu);obtain⟨k1,k2,k3,⟨w',k4⟩,k5,k6⟩:=Jax (ys:=ys) h1 fun z hz=>hr z (Zbn _ hz)
  rw[Bcv];refine⟨k1,fun z hz=>?_,fun z hz=>k3 z (h3 z hz),⟨w++w',by rw[k4,h4,Zbm]⟩,fun z hz hc=>?_,by omega⟩
  ·rcases List.mem_cons.1 hz with rfl|hz
   ·exact k3 _ h2
   ·exact k2 z hz
  ·rcases k5 z hz hc with h7|h7
   ·exact .inl h7
   ·rcases h5 z h7 hc with h8|h8
    ·exact .inl (by rw[k4];exact Zbe _ h8)
    ·exact .inr h8
theorem BInv.step {t:aM}{x:List Int}{s:BSt}(h:BInv t x s)(hw:s.wait≠[]):BInv t x (Lba t s)/\(Lba t s).wait.length+s.met.length<s.wait.length+(Lba t s).met.length:=by
 obtain⟨z,w,e⟩:∃ z w,s.wait=z::w:=by
  cases hs:s.wait with
  |nil=>exact absurd hs hw
  |cons z w=>exact⟨z,w,rfl⟩
 have vm:atI s.wait 0=z:=by rw[e];rfl
 obtain⟨hzm,um⟩:=h.wm z (by rw[e];exact Zbu);have hr:∀ y∈vL t z,Fa1 t x y:=fun y hy=>.step (h.rch z hzm) um hy
 obtain⟨k1,k2,k3,⟨w',k4⟩,k5,k6⟩:=Jax (ys:=vL t z) h.toBPre hr;have k4':((vL t z).foldl (Jaw t) s).wait.drop 1=w++w':=by rw[k4,e];rfl
 unfold Lba;rw[vm];dsimp only;refine⟨⟨⟨k1.base,k1.nd,k1.rch,k1.out,k1.ond,fun y hy=>k1.wm y (Bcs hy)⟩,fun y hy hc=>?_⟩,?_⟩
 ·dsimp only at hy ⊢
  by_cases hyz:y=z
  ·subst hyz
   exact .inr k2
  ·rw[k4']
   rcases k5 y hy hc with h1|h1
   ·rw[k4,e]at h1
    rcases List.mem_append.1 h1 with h1|h1
    ·rcases List.mem_cons.1 h1 with h1|h1
     ·exact absurd h1 hyz
     ·exact .inl (Zbe _ h1)
    ·exact .inl (Zbh _ h1)
   ·rcases h.cl y h1 hc with h2|h2
    ·rw[e]at h2
     rcases List.mem_cons.1 h2 with h2|h2
     ·exact absurd h2 hyz
     ·exact .inl (Zbe _ h2)
    ·exact .inr fun u hu=>k3 u (h2 u hu)
 ·have:0<((vL t z).foldl (Jaw t) s).wait.length:=by rw[k4,e];simp<;>omega
  rw[Acv];omega
theorem BInv.start {t:aM}{x:List Int}(hc:zK t x=true):BInv t x ⟨[x],[],[x]⟩:=by
 refine⟨⟨by simp,by simp,fun y hy=>?_,fun y=>?_,by simp,fun y hy=>?_⟩,fun z hz _=>.inl hz⟩
 ·rw[List.mem_singleton.1 hy];exact .base
 ·constructor
  ·intro hy;cases hy
  ·rintro⟨h1,h2⟩
   rw[List.mem_singleton.1 h1,hc]at h2;cases h2
 ·rw[List.mem_singleton.1 hy]
  exact⟨by simp,hc⟩
theorem BInv.done {t:aM}(ht:bG t=true){x:List Int}(hx:fB t.n x){s:BSt}(h:BInv t x s)(hw:s.wait=[]):(lL id (s.out.map prL)).map toL=vG t x:=by
 have cU:∀ y,Fa1 t x y->y∈s.met:=by
  intro y hy
  induction hy with
  |base=>exact h.base
  | step _ hc hy ih =>
   rcases h.cl _ ih hc with h1|h1
   ·rw[hw]at h1;cases h1
   ·exact h1 _ hy
 obtain⟨h1,h2⟩:=Hax (l:=s.out) (fun y hy=>((h.rch y ((h.out y).1 hy).1).inst ht hx).1) h.ond;refine vV h1 (Jav t x) fun y=>?_
 rw[h2,h.out,Mad ht hx];exact⟨fun ⟨h3,h4⟩=>⟨h.rch y h3,h4⟩,fun ⟨h3,h4⟩=>⟨cU y h3,h4⟩⟩
theorem BPre.len {t:aM}(ht:bG t=true){x:List Int}(hx:fB t.n x){s:BSt}(h:BPre t x s):s.met.length<=30/\s.out.length<=30:=by
 have h1:=Cau (bA ht) h.nd fun y hy=>(h.rch y hy).inst ht hx
 have h2:=Cau (bA ht) h.ond fun y hy=>(h.rch y ((h.out y).1 hy).1).inst ht hx
 exact⟨h1,h2⟩
def gtL (y x:List Int):Bool:=decide (atI x 0<atI y 0)||((atI y 0==atI x 0)&&decide (atI x 1<atI y 1))
def pV (l:List (List Int))(x:List Int):Nat->Nat
 |0=>0
 |k+1=>if gtL (atI l (k:Int)) x then pV l x k else k+1
def Jb2 (l:List (List Int))(x:List Int):List (List Int):=l.take (pV l x l.length)++[x]++l.drop (pV l x l.length)
theorem Tai (l:List (List Int))(x:List Int):∀ m,pV l x m<=m
 |0=>Zbr _
 | m + 1 => by
  unfold pV;split
  ·exact Nat.le_succ_of_le (Tai l x m)
  ·exact Zbr _
theorem Ab1 {l:List (List Int)}{x:List Int}:∀ {m j:Nat},pV l x m<=j->j<m->gtL (atI l (j:Int)) x=true
 |0,j,_,h=>by omega
 | m + 1, j, h, hj => by
  unfold pV at h;split at h
  ·rename_i hg
   rcases Zbz j m with h1|h1
   ·exact Ab1 h h1
   ·obtain rfl:j=m:=by omega
    exact hg
  ·omega
theorem Ab0 {l:List (List Int)}{x:List Int}:∀ {m:Nat},0<pV l x m->gtL (atI l ((pV l x m-1:Nat):Int)) x=false
 |0,h=>by simp[pV]at h
 | m + 1, h => by
  unfold pV at h ⊢;split
  ·rename_i hg
   rw[if_pos hg]at h;exact Ab0 h
  ·rename_i hg
   simpa using hg
theorem Ab8 {y x:List Int}:gtL y x=true↔ltL x y:=by
 rw[mY];unfold gtL;simp only[Acp,Zbd,decide_eq_true_eq,beq_iff_eq];omega
theorem Naw {l:List (List Int)}{x y:List Int}:y∈Jb2 l x↔y∈l\/y=x:=by
 unfold Jb2
 have e:∀ k,y∈l.take k++[x]++l.drop k↔y∈l\/y=x:=by
  intro k;have h:=Ac7 k l;rw[Zbm,Bc8,Bc8,Zbp];constructor
  ·rintro (h1|h1|h1)
   ·exact .inl (List.mem_of_mem_take h1)
   ·exact .inr h1
   ·exact .inl (Bcs h1)
  ·rintro (h1|h1)
   ·rw[<- h]at h1
    rcases List.mem_append.1 h1 with h1|h1
    ·exact .inl h1
    ·exact .inr (.inr h1)
   ·exact .inr (.inl h1)
 exact e _
theorem Abz {l:List (List Int)}{x:List Int}(h:pQ l)(h2:∀ y∈l,y.length=2)(l8:x.length=2)(hx:x∉l):pQ (Jb2 l x):=by
 have hk:=Tai l x l.length;have jq:=Ac7 (pV l x l.length) l
 have nz:∀ y∈l.take (pV l x l.length),ltL y x:=by
  intro y hy;obtain⟨j,hj⟩:=List.mem_iff_getElem?.1 hy
  have kz:j<pV l x l.length:=by
   have:=(List.getElem?_eq_some_iff.1 hj).1;rw[Zb1]at this;omega
  rw[List.getElem?_take,if_pos kz]at hj;have yk:=Ab0 (l:=l) (x:=x) (m:=l.length) (by omega);have k8:pV l x l.length-1<l.length:=by omega
  rw[bC k8]at yk;have vg:¬ ltL x l[pV l x l.length-1]:=fun e=>by rw[<- Ab8,yk]at e;cases e
  have cJ:l[pV l x l.length-1]≠x:=fun e=>hx (e▸Bco k8)
  have bb:ltL l[pV l x l.length-1] x:=by
   rw[mY]at vg ⊢;have jh:=h2 _ (Bco k8);generalize l[pV l x l.length-1]=z at vg cJ jh ⊢
   have hz:¬ (atI z 0=atI x 0/\atI z 1=atI x 1):=by
    rintro⟨e1,e2⟩
    match z,x,jh,l8 with
    | [a, b], [c, d], _, _ =>
     have e1':a=c:=e1;have e2':b=d:=e2;exact cJ (by rw[e1',e2'])
   omega
  rcases Zbz j (pV l x l.length-1) with h1|h1
  ·unfold pQ at h
   rw[List.pairwise_iff_getElem]at h;have a43:j<l.length:=by omega
   have h3:=h j (pV l x l.length-1) a43 k8 h1;rw[(List.getElem?_eq_some_iff.1 hj).2]at h3;rw[mY]at h3 bb ⊢;omega
  ·have e:j=pV l x l.length-1:=by omega
   subst e;rw[(List.getElem?_eq_some_iff.1 hj).2]at bb;exact bb
 have sj:∀ y∈l.drop (pV l x l.length),ltL x y:=by
  intro y hy;obtain⟨j,hj⟩:=List.mem_iff_getElem?.1 hy;rw[List.getElem?_drop]at hj;have kz:=(List.getElem?_eq_some_iff.1 hj).1;have:=Ab1 (l:=l) (x:=x) (m:=l.length) (j:=pV l x l.length+j) (by omega) kz;rw[bC kz,(List.getElem?_eq_some_iff.1 hj).2]at this;exact Ab8.1 this
 unfold Jb2 pQ;unfold pQ at h;rw[<- jq,Ccx]at h;rw[Zbm,Ccx];refine⟨h.1,?_,fun a ha b hb=>?_⟩
 ·rw[Bc3,Bc6]
  exact⟨sj,h.2.1⟩
 ·rcases List.mem_append.1 hb with hb|hb
  ·rw[List.mem_singleton.1 hb]
   exact nz a ha
  ·exact h.2.2 a ha b hb
structure SSt where
 met:List (List Int)
 out:List (List Int)
def Uau (t:aM)(s:SSt)(y:List Int):SSt:=if s.met.any (fun z=>decide (y=z))||s.out.any (fun z=>decide (y=z)) then s else if zK t y then ⟨s.met++[y],s.out⟩ else ⟨s.met,Jb2 s.out y⟩
def Rbo (t:aM)(s:SSt)(i:Nat):SSt:=(Kap t (atI (atI s.met (i:Int)) 0) (atI (atI s.met (i:Int)) 1)).foldl (Uau t) s
structure SPre (t:aM) (x:List Int) (s:SSt):Prop where
 base:x∈s.met
 nd:s.met.Nodup
 rch:∀ y∈s.met,Fa1 t x y/\zK t y=true
 och:∀ y∈s.out,Fa1 t x y/\zK t y=false
 srt:pQ s.out
structure Cbs (t:aM) (x:List Int) (i:Nat) (s:SSt):Prop extends SPre t x s where
 le:i<=s.met.length
 cl:∀ j,j<i->∀ y∈vL t (atI s.met (j:Int)),y∈s.met\/y∈s.out
theorem Pak {t:aM}(ht:bG t=true){x:List Int}(hx:fB t.n x){s:SSt}(h:SPre t x s){y:List Int}(hy:Fa1 t x y) :
  SPre t x (Uau t s y)/\(y∈(Uau t s y).met\/y∈(Uau t s y).out)/\(∃ m,(Uau t s y).met=s.met++m)/\(∀ z∈s.out,z∈(Uau t s y).out):=by
 unfold Uau;by_cases hm:y∈s.met
 ·rw[Eay.2 hm,Bool.true_or,if_pos rfl]
  exact⟨h,.inl hm,⟨[],by simp⟩,fun z hz=>hz⟩
 ·by_cases ho:y∈s.out
  ·rw[Eay.2 ho,Cct,if_pos rfl]
   exact⟨h,.inr ho,⟨[],by simp⟩,fun z hz=>hz⟩
  ·rw[Oag hm,Oag ho]
   simp only[Cci,Zbg,if_false]
   cases hc:zK t y with
   | true =>
    simp only[if_true];refine⟨⟨Zbe _ h.base,rX h.nd hm,fun z hz=>?_,h.och,h.srt⟩,.inl (by simp),⟨[y],rfl⟩,fun z hz=>hz⟩
    rcases List.mem_append.1 hz with hz|hz
    ·exact h.rch z hz
    ·rw[List.mem_singleton.1 hz];exact⟨hy,hc⟩
   | false =>
    simp only[Zbg,if_false];refine⟨⟨h.base,h.nd,h.rch,fun z hz=>?_,Abz h.srt (fun z hz=>((h.och z hz).1.inst ht hx).1) (hy.inst ht hx).1 ho⟩,.inr (Naw.2 (.inr rfl)),⟨[],by simp⟩,fun z hz=>Naw.2 (.inl hz)⟩
    rcases Naw.1 hz with hz|rfl
    ·exact h.och z hz
    ·exact⟨hy,hc⟩
theorem Pal {t:aM}(ht:bG t=true){x:List Int}(hx:fB t.n x):∀ {ys:List (List Int)} {s:SSt},SPre t x s->(∀ y∈ys,Fa1 t x y) ->
  SPre t x (ys.foldl (Uau t) s)/\(∀ y∈ys,y∈(ys.foldl (Uau t) s).met\/y∈(ys.foldl (Uau t) s).out)/\(∃ m,(ys.foldl (Uau t) s).met=s.met++m)/\(∀ z∈s.out,z∈(ys.foldl (Uau t) s).out)
 |[],s,h,_=>⟨h,by simp,⟨[],by simp⟩,fun z hz=>hz⟩
 | y :: ys, s, h, hr => by
  obtain⟨h1,h2,⟨m,h3⟩,h4⟩:=Pak ht hx h (hr y Zbu);obtain⟨k1,k2,⟨m',k3⟩,k4⟩:=Pal ht hx (ys:=ys) h1 fun z hz=>hr z (Zbn _ hz)
  rw[Bcv];refine⟨k1,fun z hz=>?_,⟨m++m',by rw[k3,h3,Zbm]⟩,fun z hz=>k4 z (h4 z hz)⟩
  rcases List.mem_cons.1 hz with rfl|hz
  ·rcases h2 with h2|h2
   ·exact .inl (by rw[k3];exact Zbe _ h2)
   ·exact .inr (k4 _ h2)
  ·exact k2 z hz
theorem Hbn {α:Type}[Inhabited α]{l m:List α}{j:Nat}(h:j<l.length):atI (l++m) (j:Int)=atI l (j:Int):=by
 rw[bC h,bC (by rw[Zbi];omega),Cc0 h]
theorem Cbs.step {t:aM}(ht:bG t=true){x:List Int}(hx:fB t.n x){i:Nat}{s:SSt}(h:Cbs t x i s)(hi:i<s.met.length):Cbs t x (i+1) (Rbo t s i):=by
 have hzm:=at_mem hi;obtain⟨sw,um⟩:=h.rch _ hzm;have po:=(sw.inst ht hx).1;unfold Rbo;obtain⟨k1,k2,⟨m,k3⟩,k4⟩:=Pal ht hx (ys:=Kap t (atI (atI s.met (i:Int)) 0) (atI (atI s.met (i:Int)) 1)) h.toSPre fun y hy=>.step sw um ((Jah po).1 hy).1
 refine⟨k1,by rw[k3,Zbi];omega,fun j hj y hy=>?_⟩;have kz:j<s.met.length:=by omega
 rw[k3,Hbn kz]at hy
 rcases Zbz j i with hji|hji
 ·rcases h.cl j hji y hy with h1|h1
  ·exact .inl (by rw[k3];exact Zbe _ h1)
  ·exact .inr (k4 y h1)
 ·obtain rfl:j=i:=by omega
  by_cases e:y=atI s.met (j:Int)
  ·exact .inl (by rw[k3,e];exact Zbe _ hzm)
  ·exact k2 y ((Jah po).2 ⟨hy,e⟩)
theorem Cbs.start {t:aM}{x:List Int}(hc:zK t x=true):Cbs t x 0 ⟨[x],[]⟩:=by
 have h1:∀ y∈[x],Fa1 t x y/\zK t y=true:=fun y hy=>by rw[List.mem_singleton.1 hy];exact⟨.base,hc⟩
 exact⟨⟨by simp,by simp,h1,fun y hy=>absurd hy (List.not_mem_nil),List.Pairwise.nil⟩,Bca _,fun j hj=>absurd hj (Nat.not_lt_zero _)⟩
theorem Cbs.done {t:aM}(ht:bG t=true){x:List Int}(hx:fB t.n x){s:SSt}(h:Cbs t x s.met.length s):s.out=vG t x:=by
 have cU:∀ y,Fa1 t x y->y∈s.met\/y∈s.out:=by
  intro y hy
  induction hy with
  |base=>exact .inl h.base
  | step _ hc hy ih =>
   rcases ih with h1|h1
   ·obtain⟨j,hj,e⟩:=List.mem_iff_getElem.1 h1
    refine h.cl j hj _ ?_;rw[bC hj,e];exact hy
   ·rw[(h.och _ h1).2]at hc;cases hc
 refine vV h.srt (Jav t x) fun y=>?_
 rw[Mad ht hx];refine⟨h.och y,fun ⟨h1,h2⟩=>?_⟩
 rcases cU y h1 with h3|h3
 ·rw[(h.rch y h3).2]at h2;cases h2
 ·exact h3
theorem SPre.len {t:aM}(ht:bG t=true){x:List Int}(hx:fB t.n x){s:SSt}(h:SPre t x s):s.met.length<=30/\s.out.length<=30:=by
 have h1:=Cau (bA ht) h.nd fun y hy=>(h.rch y hy).1.inst ht hx
 have h2:=Cau (bA ht) (Aam h.srt) fun y hy=>(h.och y hy).1.inst ht hx
 exact⟨h1,h2⟩
noncomputable def zM (t:aM)(x:List Int):Bool:=decide ((0:Int)<((vG t x).length:Nat))
noncomputable def aI (t:aM):List (List Int):=(bU t.rows).filter fun x=>!zM t x
theorem Dae {t:aM}(ht:bG t=true){x:List Int}(h:x∈bU t.rows):fB t.n x/\zK t x=true:=by
 obtain⟨-,-,h1,h2,h3⟩:=iI ht h;exact⟨⟨h1,h2⟩,by simp[zK,h3]⟩
def pF (kept:List (List Int))(J:List (List D))(rest:List (List Int)):D:=.rows 1 (kept.map Enc.enc++J++rest.map Enc.enc)
theorem Bb3 (l:List (List Int)){i:Nat}(h:i<=l.length):rL l=pF (l.take i) [] (l.drop i):=by
 unfold pF rL;rw[Zb4,<- Ac8,Ac7];rfl
theorem Ral (kept:List (List Int))(J:List (List D))(y:List Int)(rest:List (List Int)):pF kept J (y::rest)=pF kept (J++[Enc.enc y]) rest:=by
 unfold pF;simp[Zbm]
theorem Na4 {kept:List (List Int)}{J:List (List D)}{rest:List (List Int)}{n:Int}(h:(kept.length:Int)+J.length+rest.length=n):aU.len.run [pF kept J rest]=some [i64 n]:=by
 subst h;unfold pF;simp only[aU.run,Zbi,Zbt];rfl
theorem Na5 {kept:List (List Int)}{J:List (List D)}{rest:List (List Int)}{k:Int}(h0:0<=k)(h:k<(kept.length:Int)+J.length+rest.length):aU.inb.run [pF kept J rest,i64 k]=some []:=by
 unfold pF;show (if _ then _ else _)=_
 rw[if_pos];simp only[Zbi,Zbt];omega
theorem Bb4 {kept:List (List Int)}{J:List (List D)}{y:List Int}{rest:List (List Int)}{k:Int}(h:(kept.length:Int)+J.length=k):(kept.map Enc.enc++J++(y::rest).map Enc.enc)[k.toNat]?=some [rL y]:=by
 rw[Zbw (by simp;omega)];simp only[Zbi,Zbt];rw[show k.toNat-(kept.length+J.length)=0 by omega];rfl
theorem Va4 {kept:List (List Int)}{J:List (List D)}{y:List Int}{rest:List (List Int)}{k:Int}(h:(kept.length:Int)+J.length=k):(aU.row 1 0 [false]).run [pF kept J (y::rest),i64 k]=some [rL y]:=by
 unfold pF;show (if _ then _ else _)=_
 rw[if_pos ⟨rfl,by omega⟩,Bb4 h];rfl
theorem Ram {kept:List (List Int)}{J:List (List D)}{y:List Int}{rest:List (List Int)}{k:Int}(h:(kept.length:Int)+J.length=k):(aU.set 1 0 1).run [pF kept J (y::rest),i64 k,.hole]=some [pF kept (J++[[.hole]]) rest]:=by
 unfold pF;show (if _ then _ else _)=_
 rw[if_pos ⟨rfl,by omega⟩,Bb4 h];show some _=some _
 congr 2;rw[List.set_append_right _ _ (by simp;omega)];simp only[Zbi,Zbt];rw[show k.toNat-(kept.length+J.length)=0 by omega];simp
theorem Gb0 {kept:List (List Int)}{j:List D}{J:List (List D)}{y:List Int}{rest:List (List Int)}{k:Int}(h:(kept.length:Int)=k)(hj:j.length=1):(aU.set 1 0 1).run [pF kept (j::J) rest,i64 k,rL y]=some [pF (kept++[y]) J rest]:=by
 unfold pF
 have e:(kept.map Enc.enc++(j::J)++rest.map Enc.enc)[k.toNat]?=some j:=by
  rw[Zbm,Zbw (by simp;omega)];simp only[Zbt];rw[show k.toNat-kept.length=0 by omega];rfl
 show (if _ then _ else _)=_
 rw[if_pos ⟨rfl,by omega⟩,e];dsimp only;rw[if_pos ⟨by rw[hj];exact Zbr _,rfl⟩]
 have e2:j.take 0++[rL y]++j.drop (0+1)=[rL y]:=by
  match j,hj with
  |[d],_=>rfl
 rw[e2,Zbm,List.set_append_right _ _ (by simp;omega)];simp only[Zbt];rw[show k.toNat-kept.length=0 by omega];simp[Enc.enc]
theorem Gbz {kept:List (List Int)}{J:List (List D)}{n k:Int}(h:(kept.length:Int)=k)(hn:(kept.length:Int)+J.length=n):∃ d,(aU.sub 1 false).run [pF kept J [],i64 k,i64 n]=some [d]:=by
 unfold pF;exact⟨_,if_pos ⟨rfl,by simp,by omega,by omega,by simp;omega⟩⟩
theorem Gb2 {kept:List (List Int)}{J:List (List D)}{k:Int}(h:(kept.length:Int)=k):(aU.clr 1).run [pF kept J [],i64 k]=some [pF kept (J.map fun r=>r.map fun _=>.hole) []]:=by
 unfold pF;show (if _ then _ else _)=_
 rw[if_pos ⟨rfl,by omega⟩];have e:k.toNat=(kept.map (Enc.enc (α:=List Int))).length:=by simp;omega
 rw[e];simp
theorem Gb1 {kept:List (List Int)}{J:List (List D)}{k:Int}(h:(kept.length:Int)=k):(aU.sub 1 false).run [pF kept J [],i64 0,i64 k]=some [rL kept]:=by
 unfold pF;show (if _ then _ else _)=_
 rw[if_pos ⟨rfl,by simp,by omega,by omega,by simp;omega⟩];have e:k.toNat=(kept.map (Enc.enc (α:=List Int))).length:=by simp;omega
 rw[e];simp[rL];rfl
theorem Eau {t:aM}(ht:bG t=true):(bU t.rows).length<=30:=Cau (bA ht) (Eat ..) fun _ hy=>(Dae ht hy).1
def GOk (G:List (List Int)):Prop:=∀ r∈G,∀ x∈r,InB G x
inductive Rch (G:List (List Int)) (a:Int):Int->Prop
 |refl:Rch G a a
 |step {b c:Int}:Rch G a b->c∈atI G b->Rch G a c
theorem GOk.out {G:List (List Int)}(hg:GOk G){b c:Int}(hb:InB G b)(hc:c∈atI G b):InB G c:=hg _ (fT hb) c hc
theorem Rch.inb {G:List (List Int)}(hg:GOk G){a b:Int}(ha:InB G a)(h:Rch G a b):InB G b:=by
 induction h with
 |refl=>exact ha
 |step _ hc ih=>exact hg.out ih hc
theorem Rch.trans {G:List (List Int)}{a b c:Int}(h:Rch G a b)(h2:Rch G b c):Rch G a c:=by
 induction h2 with
 |refl=>exact h
 |step _ hc ih=>exact .step ih hc
def nums (n:Nat):List Int:=(Cck n).map fun k:Nat=>(k:Int)
theorem wM (n:Nat):nums (n+1)=nums n++[(n:Int)]:=by simp[nums,Bcy]
theorem dO (n:Nat):(nums n).length=n:=by simp[nums]
theorem yN {n:Nat}{x:Int}:x∈nums n↔0<=x/\x<n:=by
 unfold nums;rw[List.mem_map];constructor
 ·rintro⟨k,hk,rfl⟩
  rw[Bck]at hk;omega
 ·rintro⟨h1,h2⟩
  exact⟨x.toNat,List.mem_range.2 (by omega),by omega⟩
theorem Iaa (n:Nat):kE (nums n):=by
 unfold nums kE;rw[Ccg];exact List.pairwise_lt_range.imp fun {a b} h=>by omega
theorem vZ {l:List Int}(h:kE l):l.Nodup:=by
 unfold kE at h;exact h.imp fun {a b} pz e=>by omega
open Classical in
noncomputable def Fa6 (G:List (List Int))(a j:Int):Bool:=decide (Rch G a j)
theorem Gas {G:List (List Int)}{a j:Int}:Fa6 G a j=true↔Rch G a j:=by
 classical
 unfold Fa6;exact decide_eq_true_iff
noncomputable def mX (G:List (List Int))(a:Int):List Int:=(nums G.length).filter (Fa6 G a)
theorem Aap (G:List (List Int))(a:Int):kE (mX G a):=by
 unfold mX kE;exact List.Pairwise.filter _ (Iaa _)
theorem qD {G:List (List Int)}(hg:GOk G){a j:Int}(ha:InB G a):j∈mX G a↔Rch G a j:=by
 unfold mX;rw[Ccw,Gas,yN];exact⟨fun h=>h.2,fun h=>⟨h.inb hg ha,h⟩⟩
theorem yL (G:List (List Int))(a:Int):(mX G a).length<=G.length:=by
 have:=Bcb (Fa6 G a) (nums G.length);rw[dO]at this;exact this
theorem Naa {G:List (List Int)}{a j:Int}(h:j∈mX G a):InB G j:=by
 unfold mX at h;exact yN.1 (List.mem_filter.1 h).1
structure GSt where
 marks:List Bool
 todo:List Int
def GSt.left (s:GSt):Nat:=s.todo.length+s.marks.countP fun b=>!b
def gI (s:GSt)(c:Int):GSt:=if atI s.marks c then s else ⟨iJ s.marks c true,s.todo++[c]⟩
def gO (G:List (List Int))(s:GSt):GSt:=⟨((atI G (atI s.todo 0)).foldl gI s).marks,((atI G (atI s.todo 0)).foldl gI s).todo.drop 1⟩
structure GPre (G:List (List Int)) (a:Int) (s:GSt):Prop where
 len:s.marks.length=G.length
 rch:∀ j,InB G j->atI s.marks j=true->Rch G a j
 sta:InB G a
 st:atI s.marks a=true
 tm:∀ x∈s.todo,InB G x/\atI s.marks x=true
 cnt:s.left<=G.length
structure GInv (G:List (List Int)) (a:Int) (s:GSt):Prop extends GPre G a s where
 cl:∀ j,InB G j->atI s.marks j=true->j∉s.todo->∀ c∈atI G j,atI s.marks c=true
theorem rO {α:Type}[Inhabited α]{xs:List α}{j k:Int}{x:α}(hj:0<=j)(hk:0<=k)(h:j≠k):atI (iJ xs k x) j=atI xs j:=by
 have:k.toNat≠j.toNat:=by omega
 unfold atI iJ;rw[Zbk,Zbk,List.getElem?_set_ne this]
theorem rM {α:Type}[Inhabited α]{xs:List α}{k:Int}{x:α}(h:InB xs k):atI (iJ xs k x) k=x:=Bab.1 h
theorem Aa3:∀ {l:List Bool} {i:Nat},i<l.length->l.getD i default=false->(l.set i true).countP (fun b=>!b)+1=l.countP fun b=>!b
 |[],i,h,_=>by simp at h
 | b :: l, 0, _, h => by
  have hb:b=false:=h;subst hb;simp
 | b :: l, i + 1, h, h2 => by
  have:=Aa3 (l:=l) (i:=i) (by simpa using h) h2;simp only[List.set_cons_succ,List.countP_cons];omega
theorem Bbd {G:List (List Int)}{a:Int}{s:GSt}(h:GPre G a s){c:Int}(hc:InB G c)(hr:Rch G a c) :
  GPre G a (gI s c)/\(∀ j,InB G j->atI s.marks j=true->atI (gI s c).marks j=true)/\atI (gI s c).marks c=true/\(∃ w,(gI s c).todo=s.todo++w)/\(∀ j,InB G j->atI (gI s c).marks j=true->atI s.marks j=true\/j∈(gI s c).todo)/\(gI s c).left=s.left:=by
 unfold gI
 cases hm:atI s.marks c with
 |true=>exact⟨h,fun _ _ hj=>hj,hm,⟨[],by simp⟩,fun _ _ hj=>.inl hj,rfl⟩
 | false =>
  have xh:InB s.marks c:=by unfold InB at hc ⊢;rw[h.len];exact hc
  have tB:∀ j,InB G j->atI s.marks j=true->atI (iJ s.marks c true) j=true:=by
   intro j hj jo;by_cases e:j=c
   ·subst e;exact rM xh
   ·rw[rO hj.1 hc.1 e];exact jo
  have rS:GSt.left ⟨iJ s.marks c true,s.todo++[c]⟩=s.left:=by
   unfold GSt.left iJ;have:=Aa3 (l:=s.marks) (i:=c.toNat) xh.lt hm;simp only[Zbi,Zbs,Zby];omega
  simp only[Zbg,if_false];refine⟨⟨by dsimp only;rw[yH];exact h.len,fun j hj jo=>?_,h.sta,tB a h.sta h.st,fun x hx=>?_,by rw[rS];exact h.cnt⟩,tB,rM xh,⟨[c],rfl⟩,fun j hj jo=>?_,rS⟩
  ·by_cases e:j=c
   ·subst e;exact hr
   ·dsimp only at jo
    rw[rO hj.1 hc.1 e]at jo;exact h.rch j hj jo
  ·rcases List.mem_append.1 hx with hx|hx
   ·exact⟨(h.tm x hx).1,tB x (h.tm x hx).1 (h.tm x hx).2⟩
   ·rw[Zbp]at hx
    subst hx;exact⟨hc,rM xh⟩
  ·by_cases e:j=c
   ·subst e;exact .inr (by simp)
   ·try dsimp only at jo
    rw[rO hj.1 hc.1 e]at jo;exact .inl jo
theorem Tal {G:List (List Int)}{a:Int}:∀ {ys:List Int} {s:GSt},GPre G a s->(∀ c∈ys,InB G c/\Rch G a c) ->
  GPre G a (ys.foldl gI s)/\(∀ j,InB G j->atI s.marks j=true->atI (ys.foldl gI s).marks j=true)/\(∀ c∈ys,atI (ys.foldl gI s).marks c=true)/\(∃ w,(ys.foldl gI s).todo=s.todo++w)/\(∀ j,InB G j->atI (ys.foldl gI s).marks j=true->atI s.marks j=true\/j∈(ys.foldl gI s).todo)/\(ys.foldl gI s).left=s.left
 |[],s,h,_=>⟨h,fun _ _ hj=>hj,fun _ hc=>(by cases hc),⟨[],by simp⟩,fun _ _ hj=>.inl hj,rfl⟩
 | y :: ys, s, h, hy => by
  obtain⟨h1,h2⟩:=hy y Zbu;obtain⟨k1,k2,k3,⟨w1,k4⟩,k5,k6⟩:=Bbd h h1 h2;obtain⟨l1,l2,l3,⟨w2,l4⟩,l5,l6⟩:=Tal (ys:=ys) k1 fun c hc=>hy c (Zbn _ hc)
  rw[Bcv];refine⟨l1,fun j hj jo=>l2 j hj (k2 j hj jo),fun c hc=>?_,⟨w1++w2,by rw[l4,k4,Zbm]⟩,fun j hj jo=>?_,by rw[l6,k6]⟩
  ·rcases List.mem_cons.1 hc with hc|hc
   ·subst hc;exact l2 c h1 k3
   ·exact l3 c hc
  ·rcases l5 j hj jo with h3|h3
   ·rcases k5 j hj h3 with h4|h4
    ·exact .inl h4
    ·exact .inr (by rw[l4];exact Zbe _ h4)
   ·exact .inr h3
theorem GInv.step {G:List (List Int)}(hg:GOk G){a:Int}{s:GSt}(h:GInv G a s)(hw:s.todo≠[]):GInv G a (gO G s)/\(gO G s).left+1=s.left/\GPre G a ((atI G (atI s.todo 0)).foldl gI s):=by
 have hb:InB s.todo 0:=by
  have:=List.length_pos_iff.2 hw;unfold InB;omega
 obtain⟨z1,z2⟩:=h.tm _ (fT hb);have zr:=h.rch _ z1 z2;have ma:∀ c∈atI G (atI s.todo 0),InB G c/\Rch G a c:=fun c hc=>⟨hg.out z1 hc,.step zr hc⟩
 obtain⟨l1,l2,l3,⟨w,l4⟩,l5,l6⟩:=Tal h.toGPre ma
 obtain⟨t,ht⟩:∃ t,s.todo=atI s.todo 0::t:=by
  cases e:s.todo with
  |nil=>exact absurd e hw
  |cons x t=>exact⟨t,rfl⟩
 unfold gO;generalize atI s.todo 0=z at *;generalize (atI G z).foldl gI s=u at *;rw[ht,Bch]at l4
 have a2t:GSt.left ⟨u.marks,u.todo.drop 1⟩+1=s.left:=by
  rw[<- l6];unfold GSt.left;rw[l4];simp only[List.drop_succ_cons,List.drop_zero,Zbs];omega
 refine⟨⟨⟨l1.len,l1.rch,l1.sta,l1.st,fun x hx=>l1.tm x (Bcs hx),by have:=h.cnt;omega⟩,fun j hj jo yh c hc=>?_⟩,a2t,l1⟩;dsimp only at jo yh ⊢;by_cases e:j=z
 ·subst e
  exact l3 c hc
 ·have hju:j∉u.todo:=by
   rw[l4]at yh ⊢;intro hm
   rcases List.mem_cons.1 hm with h1|h1
   ·exact e h1
   ·exact yh (by simpa using h1)
  rcases l5 j hj jo with h1|h1
  ·have h2:j∉s.todo:=fun hm=>hju (by
    rw[ht]at hm;rw[l4]
    rcases List.mem_cons.1 hm with h1|h1
    ·exact absurd h1 e
    ·exact Zbn _ (Zbe _ h1))
   exact l2 c (hg.out hj hc) (h.cl j hj h1 h2 c hc)
  ·exact absurd h1 hju
theorem Tav (n:Nat):(Zbq n false).countP (fun b=>!b)=n:=by
 induction n with
 |zero=>rfl
 |succ n ih=>rw[List.replicate_succ,List.countP_cons,ih];rfl
theorem GInv.start {G:List (List Int)}{a:Int}(ha:InB G a):GInv G a ⟨iJ (Zbq G.length false) a true,[a]⟩:=by
 have hl:InB (Zbq G.length false) a:=by unfold InB at ha ⊢;rw[Acj];exact ha
 have hf:(Zbq G.length false).getD a.toNat default=false:=by
  rw[Zbk,Zbf hl.lt,Ccn];rfl
 have a2r:∀ j,InB G j->atI (iJ (Zbq G.length false) a true) j=true->j=a:=by
  intro j hj jo;by_cases e:j=a
  ·exact e
  ·rw[rO hj.1 ha.1 e]at jo
   have hlj:InB (Zbq G.length false) j:=by unfold InB at hj ⊢;rw[Acj];exact hj
   unfold atI at jo;rw[Zbk,Zbf hlj.lt,Ccn]at jo;cases jo
 refine⟨⟨by dsimp only;rw[yH,Acj],fun j hj jo=>by rw[a2r j hj jo];exact .refl,ha,rM hl,fun x hx=>?_,?_⟩,fun j hj jo yh=>absurd (by rw[a2r j hj jo];exact List.mem_singleton.2 rfl) yh⟩
 ·rw[Zbp]at hx
  subst hx;exact⟨ha,rM hl⟩
 ·unfold GSt.left iJ
  have:=Aa3 (l:=Zbq G.length false) (i:=a.toNat) hl.lt hf;rw[Tav]at this;simp only[Zbs,Zby];omega
theorem GInv.done {G:List (List Int)}(hg:GOk G){a:Int}{s:GSt}(h:GInv G a s)(hw:s.todo=[]){j:Int}(hj:InB G j):atI s.marks j=Fa6 G a j:=by
 have cU:∀ b,Rch G a b->InB G b/\atI s.marks b=true:=by
  intro b hb
  induction hb with
  |refl=>exact⟨h.sta,h.st⟩
  |step _ hc ih=>exact⟨hg.out ih.1 hc,h.cl _ ih.1 ih.2 (by rw[hw];simp) _ hc⟩
 rw[Bcx,Gas];exact⟨h.rch j hj,fun hr=>(cU j hr).2⟩
structure HSt where
 met:List Int
 que:List Int
def hI (s:HSt)(c:Int):HSt:=if lF s.que c then s else ⟨Oar s.met c,s.que++[c]⟩
theorem nN {xs:List Int}{n:Int}:lF xs n=true↔n∈xs:=by
 unfold lF;rw[Ccc];constructor
 ·rintro⟨x,hx,e⟩
  rw[<- beq_iff_eq.1 e];exact hx
 ·exact fun h=>⟨n,h,by simp⟩
structure HPre (G:List (List Int)) (a:Int) (s:HSt):Prop where
 rch:∀ x∈s.que,Rch G a x
 nd:s.que.Nodup
 srt:kE s.met
 eq:∀ x,x∈s.met↔x∈s.que
 sta:InB G a
 st:a∈s.que
structure Cbx (G:List (List Int)) (a:Int) (i:Nat) (s:HSt):Prop extends HPre G a s where
 le:i<=s.que.length
 cl:∀ k:Nat,k<i->∀ c∈atI G (atI s.que (k:Int)),c∈s.que
theorem HPre.len {G:List (List Int)}(hg:GOk G){a:Int}{s:HSt}(h:HPre G a s):s.que.length<=G.length/\s.met.length<=G.length:=by
 have h1:∀ x∈s.que,x∈nums G.length:=fun x hx=>yN.2 ((h.rch x hx).inb hg h.sta)
 have h2:=lQ h.nd h1;have h3:=lQ (vZ h.srt) fun x hx=>h1 x ((h.eq x).1 hx)
 rw[dO]at h2 h3;exact⟨h2,h3⟩
theorem Ab6 {G:List (List Int)}{a:Int}{s:HSt}(h:HPre G a s){c:Int}(hr:Rch G a c):HPre G a (hI s c)/\c∈(hI s c).que/\∃ w,(hI s c).que=s.que++w:=by
 unfold hI
 cases hm:lF s.que c with
 |true=>exact⟨h,nN.1 hm,[],by simp⟩
 | false =>
  have hn:c∉s.que:=fun e=>by rw[nN.2 e]at hm;cases hm
  simp only[Zbg,if_false];refine⟨⟨fun x hx=>?_,?_,Aar h.srt,fun x=>?_,h.sta,Zbe _ h.st⟩,by simp,[c],rfl⟩
  ·rcases List.mem_append.1 hx with hx|hx
   ·exact h.rch x hx
   ·rw[List.mem_singleton.1 hx];exact hr
  ·exact List.nodup_append.2 ⟨h.nd,by simp,fun x hx y hy e=>hn (by rw[Zbp]at hy;rw[<- hy,<- e];exact hx)⟩
  ·rw[Gat,h.eq]
   simp
theorem Ab7 {G:List (List Int)}{a:Int}:∀ {ys:List Int} {s:HSt},HPre G a s->(∀ c∈ys,Rch G a c)->HPre G a (ys.foldl hI s)/\(∀ c∈ys,c∈(ys.foldl hI s).que)/\∃ w,(ys.foldl hI s).que=s.que++w
 |[],s,h,_=>⟨h,fun _ hc=>(by cases hc),[],by simp⟩
 | y :: ys, s, h, hy => by
  obtain⟨k1,k2,w1,k3⟩:=Ab6 h (hy y Zbu);obtain⟨l1,l2,w2,l3⟩:=Ab7 (ys:=ys) k1 fun c hc=>hy c (Zbn _ hc)
  rw[Bcv];refine⟨l1,fun c hc=>?_,w1++w2,by rw[l3,k3,Zbm]⟩
  rcases List.mem_cons.1 hc with hc|hc
  ·subst hc
   rw[l3];exact Zbe _ k2
  ·exact l2 c hc
theorem Cbx.step {G:List (List Int)}{a:Int}{i:Nat}{s:HSt}(h:Cbx G a i s)(hi:i<s.que.length):Cbx G a (i+1) ((atI G (atI s.que (i:Int))).foldl hI s):=by
 have hz:=h.rch _ (at_mem hi);obtain⟨l1,l2,w,l3⟩:=Ab7 h.toHPre (ys:=atI G (atI s.que (i:Int))) fun c hc=>.step hz hc
 generalize he:(atI G (atI s.que (i:Int))).foldl hI s=u at *
 have je:∀ k:Nat,k<s.que.length->atI u.que (k:Int)=atI s.que (k:Int):=by
  intro k hk;rw[l3,bC (by rw[Zbi];omega),bC hk,Cc0 hk]
 refine⟨l1,by rw[l3,Zbi];omega,fun k hk c hc=>?_⟩;rw[je k (by omega)]at hc
 rcases Zbz k i with h1|h1
 ·rw[l3]
  exact Zbe _ (h.cl k h1 c hc)
 ·obtain rfl:k=i:=by omega
  exact l2 c hc
theorem Cbx.start {G:List (List Int)}{a:Int}(ha:InB G a):Cbx G a 0 ⟨[a],[a]⟩ :=
 ⟨⟨fun x hx=>by rw[List.mem_singleton.1 hx];exact .refl,by simp,by simp[kE],fun x=>Iff.rfl,ha,by simp⟩,Bca _,fun k hk=>absurd hk (Nat.not_lt_zero _)⟩
theorem Cbx.done {G:List (List Int)}(hg:GOk G){a:Int}{s:HSt}(h:Cbx G a s.que.length s):s.met=mX G a:=by
 refine yI h.srt (Aap _ _) fun x=>?_
 rw[h.eq,qD hg h.sta];refine⟨h.rch x,fun hr=>?_⟩
 induction hr with
 |refl=>exact h.st
 | step _ hc ih =>
  obtain⟨k,hk,e⟩:=List.mem_iff_getElem.1 ih;exact h.cl k hk _ (by rw[bC hk,e];exact hc)
noncomputable def Aac (G:List (List Int))(a:Int):List Int:=(mX G a).filter fun j=>Fa6 G j a
theorem lV {G:List (List Int)}(hg:GOk G){a j:Int}(ha:InB G a):j∈Aac G a↔Rch G a j/\Rch G j a:=by
 unfold Aac;rw[Ccw,Gas,qD hg ha]
theorem Aax (G:List (List Int))(a:Int):kE (Aac G a):=List.Pairwise.filter _ (Aap G a)
theorem xB {G:List (List Int)}(hg:GOk G){a:Int}(ha:InB G a):a∈Aac G a:=(lV hg ha).2 ⟨.refl,.refl⟩
theorem Iax {G:List (List Int)}(hg:GOk G){a j:Int}(ha:InB G a)(hj:j∈Aac G a):Aac G j=Aac G a:=by
 obtain⟨h1,h2⟩:=(lV hg ha).1 hj;refine yI (Aax _ _) (Aax _ _) fun x=>?_
 rw[lV hg (h1.inb hg ha),lV hg ha];exact⟨fun h=>⟨h1.trans h.1,h.2.trans h2⟩,fun h=>⟨h2.trans h.1,h.2.trans h1⟩⟩
theorem Nay (G:List (List Int))(a:Int):(Aac G a).length<=G.length:=Aci (Bcb _ _) (yL G a)
noncomputable def kJ (G:List (List Int)):List (List Int):=((nums G.length).filter fun i=>atI (Aac G i) 0==i).map (Aac G)
theorem Gbf {l:List Int}(h:l≠[]):atI l 0∈l:=fT (by have:=List.length_pos_iff.2 h;unfold InB;omega)
theorem jB {G:List (List Int)}{C:List Int}(h:C∈kJ G):∃ a,InB G a/\C=Aac G a/\atI C 0=a:=by
 unfold kJ at h;obtain⟨a,ha,rfl⟩:=List.mem_map.1 h;obtain⟨h1,h2⟩:=List.mem_filter.1 ha;exact⟨a,yN.1 h1,rfl,beq_iff_eq.1 h2⟩
theorem Eas {G:List (List Int)}(hg:GOk G){j:Int}(hj:InB G j):∃ C∈kJ G,j∈C:=by
 have hs:=xB hg hj;have hm:=Gbf (List.ne_nil_of_mem hs);have hi:=((lV hg hj).1 hm).1.inb hg hj;have he:=Iax hg hj hm;refine⟨Aac G (atI (Aac G j) 0),List.mem_map.2 ⟨_,List.mem_filter.2 ⟨yN.2 hi,?_⟩,rfl⟩,by rw[he];exact hs⟩;rw[he];simp
theorem Eaq {G:List (List Int)}(hg:GOk G){C D:List Int}(hC:C∈kJ G)(hD:D∈kJ G){j:Int}(h1:j∈C)(h2:j∈D):C=D:=by
 obtain⟨a,ha,rfl,-⟩:=jB hC;obtain⟨b,hb,rfl,-⟩:=jB hD;rw[<- Iax hg ha h1,<- Iax hg hb h2]
theorem Rap (G:List (List Int)):(kJ G).Nodup:=by
 unfold kJ List.Nodup;rw[Ccg];refine List.Pairwise.imp_of_mem (fun {a b} ha hb pz e=>?_) (List.Pairwise.filter _ (Iaa G.length));have h1:=beq_iff_eq.1 (List.mem_filter.1 ha).2;have h2:=beq_iff_eq.1 (List.mem_filter.1 hb).2;rw[e,h2]at h1;omega
theorem Ear (G:List (List Int)):(kJ G).length<=G.length:=by
 unfold kJ;rw[Zbt];have:=Bcb (fun i=>atI (Aac G i) 0==i) (nums G.length);rw[dO]at this;exact this
structure CSt where
 rest:List (List Int)
 out:List (List Int)
structure Ja4 (G:List (List Int)) (s:CSt):Prop where
 nd:(s.rest++s.out).Nodup
 mem:∀ C,C∈s.rest++s.out↔C∈kJ G
 cl:∀ C∈s.out,∀ j∈C,∀ k,Rch G j k->∃ D∈s.out,k∈D
def mV (out:List (List Int))(j:Int):Bool:=out.any fun D=>lF D j
theorem Rai {out:List (List Int)}{j:Int}:mV out j=true↔∃ D∈out,j∈D:=by
 unfold mV;rw[Ccc];constructor
 ·rintro⟨D,h1,h2⟩;exact⟨D,h1,nN.1 h2⟩
 ·rintro⟨D,h1,h2⟩;exact⟨D,h1,nN.2 h2⟩
noncomputable def sH (G:List (List Int))(out:List (List Int))(C:List Int):Bool:=(mX G (atI C 0)).all fun j=>mV out j||lF C j
theorem Caw {G:List (List Int)}(hg:GOk G){out:List (List Int)}{C:List Int}(hC:InB G (atI C 0)):sH G out C=true↔∀ j,Rch G (atI C 0) j->(∃ D∈out,j∈D)\/j∈C:=by
 unfold sH;rw[Zb6];constructor
 ·intro h j hj
  have:=h j ((qD hg hC).2 hj);rw[Acp,Rai,nN]at this;exact this
 ·intro h j hj
  rw[Acp,Rai,nN];exact h j ((qD hg hC).1 hj)
theorem Ja4.sub {G:List (List Int)}{s:CSt}(h:Ja4 G s){C:List Int}(hC:C∈s.rest):C∈kJ G:=(h.mem C).1 (Zbe _ hC)
theorem Bbe {G:List (List Int)}(hg:GOk G){s:CSt}(h:Ja4 G s):∀ (n:Nat) (C:List Int),C∈s.rest->(mX G (atI C 0)).length<=n->∃ D∈s.rest,sH G s.out D=true
 | n, C, hC, hn => by
  obtain⟨a,ha,he,qx⟩:=jB (h.sub hC);have s5:InB G (atI C 0):=by rw[qx];exact ha
  by_cases hf:sH G s.out C=true
  ·exact⟨C,hC,hf⟩
  rw[Caw hg s5]at hf;obtain⟨j,hf⟩:=Classical.not_forall.1 hf;obtain⟨hj,hf⟩:=Classical.not_imp.1 hf;rw[not_or]at hf;obtain⟨D,hD,hjD⟩:=Eas hg (hj.inb hg s5)
  have hDr:D∈s.rest:=by
   rcases List.mem_append.1 ((h.mem D).2 hD) with h1|h1
   ·exact h1
   ·exact absurd ⟨D,h1,hjD⟩ hf.1
  obtain⟨b,hb,hDe,heb⟩:=jB hD;have hD0:InB G (atI D 0):=by rw[heb];exact hb
  have s9:=(lV hg hb).1 (by rw[<- hDe];exact hjD);rw[<- heb]at s9
  have hna:¬ Rch G (atI D 0) (atI C 0):=fun hr=>hf.2 (by
   rw[he,lV hg ha,<- qx];exact⟨hj,s9.2.trans hr⟩)
  have hlt:(mX G (atI D 0)).length<(mX G (atI C 0)).length:=by
   have cY:atI C 0∈mX G (atI C 0):=(qD hg s5).2 .refl
   have h1:=lQ (l:=mX G (atI D 0)) (m:=(mX G (atI C 0)).erase (atI C 0)) (vZ (Aap _ _)) fun x hx=>by
    have l8:=(qD hg hD0).1 hx;refine (List.mem_erase_of_ne fun e=>hna ?_).2 ((qD hg s5).2 ((hj.trans s9.2).trans l8));rw[<- e];exact l8
   have h2:=List.length_erase_of_mem cY;have h3:=Ccd cY;omega
  match n with
  |0=>omega
  |n+1=>exact Bbe hg h n D hDr (by omega)
noncomputable def Hae (G:List (List Int))(s:CSt):Nat:=(ixF (sH G s.out) s.rest).toNat
noncomputable def cO (G:List (List Int))(s:CSt):CSt:=⟨s.rest.take (Hae G s)++s.rest.drop (Hae G s+1),s.out++[atI s.rest (Hae G s)]⟩
theorem Ja4.top {G:List (List Int)}(hg:GOk G){s:CSt}(h:Ja4 G s)(hr:s.rest≠[]):Hae G s<s.rest.length/\ixF (sH G s.out) s.rest=(Hae G s:Int)/\sH G s.out (atI s.rest (Hae G s))=true/\∀ k:Nat,k<Hae G s->sH G s.out (atI s.rest (k:Int))=false:=by
 obtain⟨C,hC⟩:=List.exists_mem_of_ne_nil _ hr;obtain⟨D,hD,hf⟩:=Bbe hg h _ C hC (Zbr _);obtain⟨k,hk,rfl⟩:=List.mem_iff_getElem.1 hD;have h0:0<=ixF (sH G s.out) s.rest:=Abu hk (by rw[bC hk];exact hf);obtain⟨h1,h2,h3⟩:=Nas h0;have e:ixF (sH G s.out) s.rest=(Hae G s:Int):=by unfold Hae;omega
 rw[e]at h1 h2;refine⟨aH.1 h1,e,h2,fun k hk=>h3 k ?_⟩;rw[e];omega
theorem Kbj {l out:List (List Int)}{i:Nat}(h:i<l.length):((l.take i++l.drop (i+1))++(out++[atI l (i:Int)])).Perm (l++out):=by
 have e:l=l.take i++atI l (i:Int)::l.drop (i+1):=by
  rw[bC h,<- Acy h,Ac7]
 conv=>rhs;rw[e]
 generalize l.take i=A;generalize l.drop (i+1)=B;generalize atI l (i:Int)=C;rw[List.perm_iff_count];intro x;simp only[List.count_append,List.count_cons,List.count_nil];omega
theorem Ja4.step {G:List (List Int)}(hg:GOk G){s:CSt}(h:Ja4 G s)(hr:s.rest≠[]):Ja4 G (cO G s)/\(cO G s).rest.length+1=s.rest.length:=by
 obtain⟨h1,h2,h3,-⟩:=h.top hg hr;have hp:=Kbj (out:=s.out) h1;have hCr:atI s.rest (Hae G s:Int)∈s.rest:=at_mem h1;unfold cO;generalize Hae G s=i at *;refine⟨⟨hp.nodup_iff.2 h.nd,fun C=>by rw[hp.mem_iff];exact h.mem C,fun C hC j hj k hk=>?_⟩,by simp only[Zbi,Zb1,Acv];omega⟩;dsimp only at hC ⊢
 rcases List.mem_append.1 hC with hC|hC
 ·obtain⟨D,hD,hkD⟩:=h.cl C hC j hj k hk
  exact⟨D,Zbe _ hD,hkD⟩
 ·rw[Zbp]at hC
  subst hC;obtain⟨a,ha,he,qx⟩:=jB (h.sub hCr);have s5:InB G (atI (atI s.rest (i:Int)) 0):=by rw[qx];exact ha
  have hja:=(lV hg ha).1 (by rw[<- he];exact hj)
  rcases (Caw hg s5).1 h3 k (by rw[qx];exact hja.1.trans hk) with ⟨D,hD,hkD⟩|hkC
  ·exact⟨D,Zbe _ hD,hkD⟩
  ·exact⟨_,Zbh _ (List.mem_singleton.2 rfl),hkC⟩
noncomputable def cM (G:List (List Int)):Nat->CSt->List (List Int)
 |0,s=>s.out
 |n+1,s=>cM G n (cO G s)
noncomputable def bT (G:List (List Int)):List (List Int):=cM G (kJ G).length ⟨kJ G,[]⟩
theorem Ja4.start (G:List (List Int)):Ja4 G ⟨kJ G,[]⟩ :=
 ⟨by dsimp only;rw[Zb4];exact Rap G,fun C=>by dsimp only;rw[Zb4],fun C hC=>by cases hC⟩
theorem Cbp {G:List (List Int)}(hg:GOk G):∀ (n:Nat) (s:CSt),s.rest.length=n->Ja4 G s->Ja4 G ⟨[],cM G n s⟩
 | 0, s, hn, h => by
  obtain⟨rest,out⟩:=s;have:rest=[]:=List.length_eq_zero_iff.1 hn;subst this;exact h
 | n + 1, s, hn, h => by
  have hr:s.rest≠[]:=fun e=>by rw[e]at hn;simp at hn
  obtain⟨h1,h2⟩:=h.step hg hr;exact Cbp hg n (cO G s) (by omega) h1
theorem oI {G:List (List Int)}(hg:GOk G):(bT G).Nodup/\∀ C,C∈bT G↔C∈kJ G:=by
 have h:=Cbp hg _ _ rfl (Ja4.start G);exact⟨h.nd,h.mem⟩
def Gbj (G:List (List Int))(L:List (List Int))(i:Nat):Bool:=(atI L (i:Int)).all fun j=>(Cck L.length).all fun k:Nat=>(k==i)||(atI L (k:Int)).all fun x=>!lF (atI G j) x
theorem Gbi {G:List (List Int)}(hg:GOk G){s:CSt}(h:Ja4 G s){i:Nat}(hi:i<s.rest.length):Gbj G s.rest i=sH G s.out (atI s.rest (i:Int)):=by
 have hCr:atI s.rest (i:Int)∈s.rest:=at_mem hi;obtain⟨a,ha,he,qx⟩:=jB (h.sub hCr);have s5:InB G (atI (atI s.rest (i:Int)) 0):=by rw[qx];exact ha
 have q0:=List.nodup_append.1 h.nd;rw[Bcx,Caw hg s5];unfold Gbj;simp only[Zb6,Bck,Acp,beq_iff_eq,Zb3,<- Bool.not_eq_true,nN];constructor
 ·intro hS j hj
  have key:(∃ D∈s.out,j∈D)\/j∈atI s.rest (i:Int):=by
   induction hj with
   |refl=>exact .inr (by rw[qx,he];exact xB hg ha)
   | @step b c hb hc ih =>
    rcases ih with ⟨D,hD,hbD⟩|hbC
    ·exact .inl (h.cl D hD b hbD c (.step .refl hc))
    ·have sY:=hb.inb hg s5
     obtain⟨D,hD,hcD⟩:=Eas hg (hg.out sY hc)
     rcases List.mem_append.1 ((h.mem D).2 hD) with h1|h1
     ·obtain⟨k,hk,rfl⟩:=List.mem_iff_getElem.1 h1
      rcases hS b hbC k hk with e|e
      ·subst e
       exact .inr (by rw[bC hk];exact hcD)
      ·exact absurd hc (e c (by rw[bC hk];exact hcD))
     ·exact .inl ⟨D,h1,hcD⟩
  exact key
 ·intro hM j hj k hk
  by_cases e:k=i
  ·exact .inl e
  refine .inr fun x hx hc=>?_
  have hja:=(lV hg ha).1 (by rw[<- he];exact hj);have oi:atI s.rest (k:Int)∈s.rest:=at_mem hk
  rcases hM x (by rw[qx];exact .step hja.1 hc) with ⟨D,hD,hxD⟩|hxC
  ·have:=Eaq hg (h.sub oi) ((h.mem D).1 (Zbh _ hD)) hx hxD
   exact q0.2.2 _ oi _ hD this
  ·have:=Eaq hg (h.sub oi) (h.sub hCr) hx hxC
   rw[bC hk,bC hi]at this;exact e ((Ccq q0.1).1 this)
theorem sD (ks:List Int)(n:Int):jJ ks n=(atI ks n,0):=rfl
def Fag (ks l:List Int)(x:Int):Nat->Nat
 |0=>0
 |k+1=>if decide (atI ks x<atI ks (atI l (k:Int))) then Fag ks l x k else k+1
def Cb3 (ks l:List Int)(x:Int):List Int:=l.take (Fag ks l x l.length)++[x]++l.drop (Fag ks l x l.length)
theorem Tad (ks l:List Int)(x:Int):∀ m,Fag ks l x m<=m
 |0=>Zbr _
 | m + 1 => by
  unfold Fag;split
  ·exact Nat.le_succ_of_le (Tad ks l x m)
  ·exact Zbr _
theorem Abn {ks l:List Int}{x:Int}:∀ {m j:Nat},Fag ks l x m<=j->j<m->atI ks x<atI ks (atI l (j:Int))
 |0,j,_,h=>by omega
 | m + 1, j, h, hj => by
  unfold Fag at h;split at h
  ·rename_i hg
   rcases Zbz j m with h1|h1
   ·exact Abn h h1
   ·obtain rfl:j=m:=by omega
    exact of_decide_eq_true hg
  ·omega
theorem Abm {ks l:List Int}{x:Int}:∀ {m:Nat},0<Fag ks l x m->atI ks (atI l ((Fag ks l x m-1:Nat):Int))<=atI ks x
 |0,h=>by simp[Fag]at h
 | m + 1, h => by
  unfold Fag at h ⊢;split
  ·rename_i hg
   rw[if_pos hg]at h;exact Abm h
  ·rename_i hg
   have hg':¬ atI ks x<atI ks (atI l (m:Int)):=by simpa using hg
   rw[Nat.add_sub_cancel];omega
theorem Iam (ks l:List Int)(x:Int):(Cb3 ks l x).Perm (x::l):=by
 unfold Cb3;have h:=Ac7 (Fag ks l x l.length) l
 conv=>rhs;rw[<- h]
 generalize l.take (Fag ks l x l.length)=A;generalize l.drop (Fag ks l x l.length)=B;rw[List.perm_iff_count];intro y;simp only[List.count_append,List.count_cons,List.count_nil];omega
theorem Tac {ks l:List Int}{x:Int}(h:rC (jJ ks) l):rC (jJ ks) (Cb3 ks l x):=by
 have hle:∀ a b:Int,ltQ (jJ ks b) (jJ ks a)=false↔atI ks a<=atI ks b:=by
  intro a b;rw[sD,sD,rY];dsimp only;omega
 unfold rC at h ⊢;simp only[hle]at h ⊢;have hk:=Tad ks l x l.length
 have kr:∀ i j:Nat,i<=j->j<l.length->atI ks (atI l (i:Int))<=atI ks (atI l (j:Int)):=by
  intro i j sh hj
  rcases Zbz i j with h1|h1
  ·have:=List.pairwise_iff_getElem.1 h i j (by omega) hj h1
   rw[bC (by omega),bC hj];exact this
  ·obtain rfl:i=j:=by omega
   exact Int.le_refl _
 have nz:∀ y∈l.take (Fag ks l x l.length),atI ks y<=atI ks x:=by
  intro y hy;obtain⟨j,hj,rfl⟩:=List.mem_iff_getElem.1 hy;rw[Zb1]at hj;have h1:=Abm (ks:=ks) (l:=l) (x:=x) (m:=l.length) (by omega);have h2:=kr j (Fag ks l x l.length-1) (by omega) (by omega);rw[bC (show j<l.length by omega)]at h2;rw[List.getElem_take];omega
 have sj:∀ y∈l.drop (Fag ks l x l.length),atI ks x<=atI ks y:=by
  intro y hy;obtain⟨j,hj,rfl⟩:=List.mem_iff_getElem.1 hy;rw[Acv]at hj;have h1:=Abn (ks:=ks) (l:=l) (x:=x) (m:=l.length) (j:=Fag ks l x l.length+j) (by omega) (by omega);rw[bC (by omega)]at h1;rw[List.getElem_drop];omega
 unfold Cb3;rw[Zbm,Ccx];refine⟨h.sublist (List.take_sublist _ _),?_,fun a ha b hb=>?_⟩
 ·rw[Bc3,Bc6]
  exact⟨sj,h.sublist (List.drop_sublist _ _)⟩
 ·rw[Bc3,Acf]at hb
  rcases hb with hb|hb
  ·rw[hb];exact nz a ha
  ·exact Int.le_trans (nz a ha) (sj b hb)
theorem Vbr {ks:List Int}:∀ (ys l:List Int),rC (jJ ks) l->rC (jJ ks) (ys.foldl (Cb3 ks) l)/\(ys.foldl (Cb3 ks) l).Perm (ys++l)
 |[],l,h=>⟨h,.refl _⟩
 | y :: ys, l, h => by
  obtain⟨h1,h2⟩:=Vbr ys (Cb3 ks l y) (Tac h);refine⟨h1,h2.trans ?_⟩;refine ((Iam ks l y).append_left ys).trans ?_;rw[Bch];exact List.perm_middle
theorem Abo {ks ys:List Int}(hi:∀ x∈ys,∀ y∈ys,atI ks x=atI ks y->x=y):ys.foldl (Cb3 ks) []=lL (jJ ks) ys:=by
 obtain⟨h1,h2⟩:=Vbr (ks:=ks) ys [] List.Pairwise.nil;rw[Zb4]at h2;refine Ea9 _ h2 h1 fun x hx y hy e=>hi x hx y hy ?_
 rw[sD,sD]at e;exact (Prod.mk.inj e).1
theorem Par {β:Type}(k:β->Int×Int)(l:List β):(lL k l).length=l.length:=(iD k l).length_eq
noncomputable def uZ (G:List (List Int))(ks:List Int)(m:Nat):List Int:=((bT G).take m).flatMap (lL (jJ ks))
noncomputable def nH (G:List (List Int))(ks:List Int):List Int:=(bT G).flatMap (lL (jJ ks))
theorem Ha7 {G:List (List Int)}{ks:List Int}{m:Nat}(h:m<(bT G).length):uZ G ks (m+1)=uZ G ks m++lL (jJ ks) (atI (bT G) (m:Int)):=by
 unfold uZ;rw[<- take_at h,Bcn,List.flatMap_cons,List.flatMap_nil,Zb4]
theorem Ha8 (G:List (List Int))(ks:List Int):uZ G ks (bT G).length=nH G ks:=by unfold uZ nH;rw[Acn]
theorem Las {G:List (List Int)}(hg:GOk G){ks:List Int}{j:Int}:j∈nH G ks↔InB G j:=by
 unfold nH;rw[Bcz];constructor
 ·rintro⟨C,hC,hj⟩
  obtain⟨a,ha,rfl,-⟩:=jB (((oI hg).2 C).1 hC);exact ((lV hg ha).1 ((iD _ _).mem_iff.1 hj)).1.inb hg ha
 ·intro hj
  obtain⟨C,hC,hjC⟩:=Eas hg hj;exact⟨C,((oI hg).2 C).2 hC,(iD _ _).mem_iff.2 hjC⟩
theorem wJ {G:List (List Int)}(hg:GOk G)(ks:List Int):(nH G ks).Nodup:=by
 obtain⟨h1,h2⟩:=oI hg;unfold nH;unfold List.Nodup;rw[List.flatMap_def,List.pairwise_flatten];constructor
 ·intro l hl
  obtain⟨C,hC,rfl⟩:=List.mem_map.1 hl;obtain⟨a,ha,rfl,-⟩:=jB ((h2 C).1 hC);exact (iD _ _).nodup_iff.2 (vZ (Aax _ _))
 ·rw[Ccg]
  refine List.Pairwise.imp_of_mem (fun {C D} hC hD cJ x hx y hy e=>?_) h1;subst e;exact cJ (Eaq hg ((h2 C).1 hC) ((h2 D).1 hD) ((iD _ _).mem_iff.1 hx) ((iD _ _).mem_iff.1 hy))
theorem Lat {G:List (List Int)}(hg:GOk G)(ks:List Int):(nH G ks).length<=G.length:=by
 have:=lQ (wJ hg ks) (m:=nums G.length) fun x hx=>yN.2 ((Las hg).1 hx)
 rw[dO]at this;exact this
theorem Lar {G:List (List Int)}(hg:GOk G)(ks:List Int)(m:Nat):(uZ G ks m).length<=G.length:=by
 have h:=Lat hg ks
 have e:nH G ks=uZ G ks m++((bT G).drop m).flatMap (lL (jJ ks)):=by
  unfold uZ nH;rw[<- Bcn,Ac7]
 rw[e,Zbi]at h;omega
theorem Dal:(∀ {n:Int},0<=n->n<=100000000000->(aU.make 1 [(.bool false)]).run [i64 n]=some [rL (Zbq n.toNat false)]) /\
  (∀ {xs:List Bool} {k:Int},InB xs k->(aU.row 1 0 [true]).run [rL xs,i64 k]=some [.bool (atI xs k)]) /\
  (∀ {xs:List Bool} {k:Int} {b:Bool},InB xs k->(aU.set 1 0 1).run [rL xs,i64 k,.bool b]=some [rL (iJ xs k b)]) /\
  (∀ {xs:List Bool} {k:Int},InB xs k->aU.inb.run [rL xs,i64 k]=some [])/\(∀ {xs:List Bool},xs.length<=1099511627776->aU.len.run [rL xs]=some [i64 xs.length]) :=
 ⟨fun h h2=>wH rfl h (by unfold gX;omega),fun h=>rV rfl h,fun h=>wG rfl rfl (by simp[Enc.sz]) rfl h,fun h=>Iba h,fun h=>by simp[rL,aU.run]⟩
theorem Gbk {α:Type}[Inhabited α]{xs:List α}{p:α->Bool}{k:Nat}(h:k<xs.length):(xs.take (k+1)).filter p=(xs.take k).filter p++if p (atI xs (k:Int)) then [atI xs (k:Int)] else []:=by
 rw[<- take_at h,Bcc];congr 1;cases hp:p (atI xs (k:Int))
 ·rw[List.filter_cons_of_neg (by rw[hp];simp)];rfl
 ·rw[List.filter_cons_of_pos hp];rfl
theorem Za5 {n:Nat}{β:Type}[Inhabited β]{f:Int->β}{j:Int}(h:0<=j/\j<n):atI ((nums n).map f) j=f j:=by
 obtain⟨k,rfl⟩:∃ k:Nat,j=(k:Int):=⟨j.toNat,by omega⟩;rw[bC (by rw[Zbt,dO];omega),Bc0];simp[nums]
noncomputable def rsM (G:List (List Int)):List (List Int):=(nums G.length).map (mX G)
theorem Zal (G:List (List Int)):(rsM G).length=G.length:=by unfold rsM;rw[Zbt,dO]
theorem Paw {G:List (List Int)}{j:Int}(h:InB G j):atI (rsM G) j=mX G j:=Za5 h
theorem Ha1 {G:List (List Int)}{j:Int}(h:InB G j):InB (rsM G) j:=by unfold InB at h ⊢;rw[Zal];exact h
theorem Taj {G:List (List Int)}(hg:GOk G){a j:Int}(ha:InB G a):lF (mX G a) j=Fa6 G a j:=by
 rw[Bcx,nN,qD hg ha,Gas]
noncomputable def Hbd (G:List (List Int))(m:Nat):List (List Int):=((nums m).filter fun i=>atI (Aac G i) 0==i).map (Aac G)
theorem Rau (G:List (List Int))(m:Nat):Hbd G (m+1)=Hbd G m++if atI (Aac G (m:Int)) 0==(m:Int) then [Aac G (m:Int)] else []:=by
 unfold Hbd;rw[wM,Bcc,Ac8];congr 1;rw[Ac6,Bcp];cases h:(atI (Aac G (m:Int)) 0==(m:Int))<;>rfl
theorem Va8 (G:List (List Int))(m:Nat):(Hbd G m).length<=m:=by
 unfold Hbd;rw[Zbt];have:=Bcb (fun i=>atI (Aac G i) 0==i) (nums m);rw[dO]at this;exact this
noncomputable def Ibi (G:List (List Int))(i:Int)(m:Nat):List Int:=(nums m).filter fun j=>Fa6 G i j&&Fa6 G j i
theorem Ab9 (G:List (List Int))(i:Int)(m:Nat):Ibi G i (m+1)=Ibi G i m++if Fa6 G i (m:Int)&&Fa6 G (m:Int) i then [(m:Int)] else []:=by
 unfold Ibi;rw[wM,Bcc];congr 1;rw[Ac6,Bcp]
theorem Gbh (G:List (List Int))(i:Int):Ibi G i G.length=Aac G i:=by
 unfold Ibi Aac mX;rw[List.filter_filter];congr 1;funext j;rw[Bool.and_comm]
theorem Gbg (G:List (List Int))(i:Int)(m:Nat):(Ibi G i m).length<=m:=by
 have:=Bcb (fun j=>Fa6 G i j&&Fa6 G j i) (nums m);rw[dO]at this;exact this
theorem Tak {G:List (List Int)}{a j:Int}(h:j∈Aac G a):InB G j:=by
 unfold Aac at h;exact Naa (List.mem_filter.1 h).1
def sK (n:Nat)(out:List (List Int)):List Bool:=(nums n).map (mV out)
theorem Rah (n:Nat)(out:List (List Int)):(sK n out).length=n:=by unfold sK;rw[Zbt,dO]
theorem Fb3 {n:Nat}{p:Int->Bool}{c:Int}(h:0<=c/\c<n):iJ ((nums n).map p) c true=(nums n).map fun j=>p j||j==c:=by
 unfold iJ;apply Cc3
 ·rw[Bce,Zbt,Zbt]
 ·intro k h1 h2
  rw[Zbt,dO]at h2;rw[List.getElem_set,Bc0,Bc0];have e:(nums n)[k]'(by rw[dO];exact h2)=(k:Int):=by simp[nums]
  rw[e];split
  ·rename_i hk
   have:((k:Int)==c)=true:=by rw[beq_iff_eq];omega
   rw[this,Cct]
  ·rename_i hk
   have:((k:Int)==c)=false:=by rw[beq_eq_false_iff_ne];omega
   rw[this,Cci]
theorem Vas {C:List Int}{k:Nat}(h:k<C.length)(j:Int):lF (C.take (k+1)) j=(lF (C.take k) j||j==atI C (k:Int)):=by
 unfold lF;rw[<- take_at h,List.any_append,List.any_cons,List.any_nil,Cci];congr 1;rw[Bcx,beq_iff_eq,beq_iff_eq];exact eq_comm
theorem Bby (out:List (List Int))(C:List Int)(j:Int):mV (out++[C]) j=(mV out j||lF C j):=by
 unfold mV;rw[List.any_append,List.any_cons,List.any_nil,Cci]
theorem Ja4.len {G:List (List Int)}{s:CSt}(h:Ja4 G s):s.rest.length+s.out.length<=G.length:=by
 have h1:=lQ h.nd (m:=kJ G) fun C hC=>(h.mem C).1 hC
 rw[Zbi]at h1;exact Aci h1 (Ear G)
theorem Ja4.grp {G:List (List Int)}(hg:GOk G){s:CSt}(h:Ja4 G s){C:List Int}(hC:C∈s.rest):C.length<=G.length/\0<C.length/\(∀ j∈C,InB G j)/\InB C 0/\InB G (atI C 0):=by
 obtain⟨a,ha,he,qx⟩:=jB (h.sub hC);have hs:a∈C:=by rw[he];exact xB hg ha
 have hp:=Ccd hs;exact⟨by rw[he];exact Nay G a,hp,fun j hj=>Tak (by rw[<- he];exact hj),by unfold InB;omega,by rw[qx];exact ha⟩
def Ia4 (G:List (List Int))(L:List (List Int))(i:Nat)(j:Int)(k:Nat)(m:Nat):Bool:=(k==i)||((atI L (k:Int)).take m).all fun x=>!lF (atI G j) x
def Kan (G:List (List Int))(L:List (List Int))(i:Nat)(j:Int)(m:Nat):Bool:=(Cck m).all fun k:Nat=>(k==i)||(atI L (k:Int)).all fun x=>!lF (atI G j) x
def Ia3 (G:List (List Int))(L:List (List Int))(i:Nat)(m:Nat):Bool:=((atI L (i:Int)).take m).all fun j=>Kan G L i j L.length
theorem Xa2 (G L:List (List Int))(i:Nat)(j:Int)(k:Nat):Ia4 G L i j k 0=true:=by simp[Ia4]
theorem Xa3 {G L:List (List Int)}{i:Nat}{j:Int}{k m:Nat}(h:m<(atI L (k:Int)).length):Ia4 G L i j k (m+1)=(Ia4 G L i j k m&&((k==i)||!lF (atI G j) (atI (atI L (k:Int)) (m:Int)))):=by
 unfold Ia4;rw[<- take_at h,List.all_append,Bct,Ccm,Bcu];cases (k==i)<;>simp
theorem Bbg {G L:List (List Int)}{i:Nat}{j:Int}{k:Nat}:Ia4 G L i j k (atI L (k:Int)).length=((k==i)||(atI L (k:Int)).all fun x=>!lF (atI G j) x):=by
 unfold Ia4;rw[Acn]
theorem Xa0 (G L:List (List Int))(i:Nat)(j:Int):Kan G L i j 0=true:=rfl
theorem Xa1 (G L:List (List Int))(i:Nat)(j:Int)(m:Nat):Kan G L i j (m+1)=(Kan G L i j m&&Ia4 G L i j m (atI L (m:Int)).length):=by
 rw[Bbg];unfold Kan;rw[Bcy,List.all_append,Bct,Ccm,Bcu]
theorem Xay (G L:List (List Int))(i:Nat):Ia3 G L i 0=true:=by simp[Ia3]
theorem Xaz {G L:List (List Int)}{i m:Nat}(h:m<(atI L (i:Int)).length):Ia3 G L i (m+1)=(Ia3 G L i m&&Kan G L i (atI (atI L (i:Int)) (m:Int)) L.length):=by
 unfold Ia3;rw[<- take_at h,List.all_append,Bct,Ccm,Bcu]
theorem Bbf (G L:List (List Int))(i:Nat):Ia3 G L i (atI L (i:Int)).length=Gbj G L i:=by
 unfold Ia3 Gbj Kan;rw[Acn]
theorem Bb2 {xs:List (List Int)}{i:Nat}(h:i<xs.length)(hl:xs.length<=1000000):Kbe 1 [Xav xs (i:Int),i64 (i:Int),i64 ((i:Int)+1)]=some [rL (xs.take i++xs.drop (i+1))]:=by
 unfold Xav Kbe;have hlen:((xs.map Enc.enc).set ((i:Int)).toNat [D.hole]).length=xs.length:=by rw[Bce,Zbt]
 have e1:((i:Int)).toNat=i:=Int.toNat_natCast i;have e2:((i:Int)+1).toNat=i+1:=by omega
 show (if _ then _ else _)=_
 rw[if_pos ⟨rfl,by omega,by omega,by rw[hlen];omega,by rw[hlen];omega,by rw[hlen];omega⟩,e1,e2];rw[List.take_set_of_le (Zbr _),List.drop_set_of_lt (Nat.lt_succ_self _)];simp only[rL,Ac8,List.map_take,List.map_drop];rfl
theorem Bbv {n:Nat}{out:List (List Int)}{C:List Int}{m:Nat}(hm:m<C.length)(h:0<=atI C (m:Int)/\atI C (m:Int)<n):iJ ((nums n).map fun j=>mV out j||lF (C.take m) j) (atI C (m:Int)) true=(nums n).map fun j=>mV out j||lF (C.take (m+1)) j:=by
 rw[Fb3 h];congr 1;funext j;rw[Vas hm,Bool.or_assoc]
theorem Tas (n:Nat)(out:List (List Int))(C:List Int):((nums n).map fun j=>mV out j||lF (C.take 0) j)=sK n out:=by
 unfold sK;congr 1;funext j;rw[List.take_zero];show (mV out j||false)=_
 rw[Cci]
theorem Bbx (n:Nat)(out:List (List Int))(C:List Int):((nums n).map fun j=>mV out j||lF (C.take C.length) j)=sK n (out++[C]):=by
 unfold sK;congr 1;funext j;rw[Acn,Bby]
theorem Bbw (n:Nat):sK n []=Zbq n false:=by
 unfold sK;apply Cc3
 ·rw[Zbt,dO,Acj]
 ·intro k h1 h2
  rw[Bc0,Ccn];rfl
theorem Zba:(∀ {xs:List (List Int)},0<xs.length->aU.ne.run [rL xs]=some [])/\(∀ {xs:List Bool},0<xs.length->aU.ne.run [rL xs]=some []):=by
 constructor
 ·intro xs h
  cases xs with
  |nil=>simp at h
  |cons x xs=>rfl
 ·intro xs h
  cases xs with
  |nil=>simp at h
  |cons x xs=>rfl
def hsD (xs:List (List Int))(p:Int->Bool):D:=.rows 1 ((nums xs.length).map fun j=>if p j then [D.hole] else Enc.enc (atI xs j))
theorem Obh (xs:List (List Int)){p:Int->Bool}(h:∀ j,InB xs j->p j=false):hsD xs p=rL xs:=by
 unfold hsD rL;congr 1;apply Cc3
 ·rw[Zbt,Zbt,dO]
 ·intro k h1 h2
  rw[Zbt]at h2;rw[Bc0,Bc0];have e:(nums xs.length)[k]'(by rw[dO];exact h2)=(k:Int):=by simp[nums]
  rw[e,h _ (aH.2 h2),bC h2];rfl
theorem Ab4 {xs:List (List Int)}{p:Int->Bool}{k:Int}(h:InB xs k):((nums xs.length).map fun j=>if p j then [D.hole] else Enc.enc (atI xs j))[k.toNat]?=some (if p k then [D.hole] else Enc.enc (atI xs k)):=by
 have h1:=h.lt;unfold InB at h;rw[List.getElem?_map,Zbf (by rw[dO];exact h1)];have e:(nums xs.length)[k.toNat]'(by rw[dO];exact h1)=k:=by simp[nums];omega
 rw[e];rfl
theorem Jb5 {xs:List (List Int)}{p:Int->Bool}{k:Int}(h:InB xs k):aU.inb.run [hsD xs p,i64 k]=some []:=by
 unfold InB at h;unfold hsD;show (if _ then _ else _)=_
 rw[if_pos];rw[Zbt,dO];exact h
theorem Jb4 {xs:List (List Int)}{p:Int->Bool}{k:Int}(h:InB xs k)(hp:p k=false):(aU.row 1 0 [false]).run [hsD xs p,i64 k]=some [rL (atI xs k)]:=by
 unfold hsD;show (if _ then _ else _)=_
 rw[if_pos ⟨rfl,h.1⟩,Ab4 h,hp];rfl
theorem Gbe {xs:List (List Int)}{p:Int->Bool}{k:Int}(h:InB xs k):(aU.set 1 0 1).run [hsD xs p,i64 k,.hole]=some [hsD xs fun j=>p j||j==k]:=by
 unfold hsD;show (if _ then _ else _)=_
 rw[if_pos ⟨rfl,h.1⟩,Ab4 h];have hk:=h.lt;unfold InB at h
 have e0:∀ r:List D,(r=[.hole]\/∃ d,r=[d])->r.take 0++[D.hole]++r.drop (0+1)=[.hole]:=by
  rintro r (rfl|⟨d,rfl⟩)<;>rfl
 have e1:(if p k=true then [D.hole] else Enc.enc (atI xs k)).length=1:=by cases p k<;>rfl
 dsimp only;rw[if_pos ⟨by rw[e1];exact Zbr _,rfl⟩,e0 _ (by cases p k;exact .inr ⟨_,rfl⟩;exact .inl rfl)];refine congrArg (fun l=>some [D.rows 1 l]) (Cc3 ?_ ?_)
 ·rw[Bce,Zbt,Zbt]
 ·intro i h1 h2
  rw[Zbt,dO]at h2;rw[List.getElem_set,Bc0,Bc0];have e:(nums xs.length)[i]'(by rw[dO];exact h2)=(i:Int):=by simp[nums]
  rw[e];split
  ·rename_i ox
   have:((i:Int)==k)=true:=by rw[beq_iff_eq];omega
   simp only[this,Cct,if_true]
  ·rename_i ox
   have:((i:Int)==k)=false:=by rw[beq_eq_false_iff_ne];omega
   simp only[this,Cci]
theorem Abp {l kl:List Int}(h1:∀ n∈l,InB kl n)(h2:∀ k∈kl,0<=k/\k<=1000000000)(h3:∀ n∈l,∀ m∈l,atI kl n=atI kl m->n=m):Fah l kl=true:=by
 unfold Fah;simp only[Zbd,Zb6,decide_eq_true_eq,Acp,Zb3,beq_eq_false_iff_ne,beq_iff_eq];refine⟨⟨fun n hn=>⟨(h1 n hn).1,(h1 n hn).lt⟩,h2⟩,fun n hn m hm=>?_⟩;by_cases e:jJ kl n=jJ kl m
 ·refine .inr (h3 n hn m hm ?_)
  rw[sD,sD]at e;exact (Prod.mk.inj e).1
 ·exact .inl e
theorem Qaq:∀ (l:List Int),Kaj (l.map Enc.enc)=some l:=fun l=>Qap l
theorem Kbs {l kl:List Int}(h:Fah l kl=true)(hl:l.length<=1000000):Laa [rL l,rL kl]=some [rL (lL (jJ kl) l)]:=by
 show ((Kaj (l.map Enc.enc)).bind fun l=>(Kaj (kl.map Enc.enc)).bind fun kl=>if l.length<=vW/\Fah l kl=true then some [D.rows 1 ((lL (jJ kl) l).map fun p=>[D.int .i64 p])] else none)=_
 rw[Qaq,Qaq];show (if _ then _ else _)=_
 rw[if_pos ⟨hl,h⟩];rfl
theorem Raq (l:List bR)(k:Int)(m:Nat):pQ (gU l k m):=by
 unfold pQ gU;rw[List.pairwise_flatMap];refine⟨fun i hi=>by split<;>simp,?_⟩;refine List.pairwise_lt_range.imp fun {a b} pz=>?_
 intro x hx y hy;split at hx
 ·split at hy
  ·rw[Zbp]at hx hy
   subst hx;subst hy
   rw[mY];simp[atI];omega
  ·cases hy
 ·cases hx
theorem Rar (rows:List (List bR)):pQ (bU rows):=by
 unfold pQ bU Ga1;rw[List.pairwise_flatMap];refine⟨fun k hk=>Raq _ _ _,?_⟩;refine List.pairwise_lt_range.imp fun {a b} pz=>?_
 intro x hx y hy;obtain⟨i,hi,rfl⟩:=sO hx;obtain⟨j,hj,rfl⟩:=sO hy;rw[mY];simp[atI];omega
theorem Hbc {t:aM}(ht:bG t=true){x:List Int}:x∈bU t.rows↔fB t.n x/\zK t x=true:=by
 refine⟨Dae ht,?_⟩
 rintro⟨⟨h2,hi⟩,hc⟩
 match x,h2 with
 | [a, b], _ =>
  have eS:inst t.n a b=true:=hi;obtain⟨r1,r2,r3,r4⟩:=bJ eS;have hb:=dL ht eS;have gj:((fM t a b).state==3)=true:=hc;unfold fM at gj;split at gj
  ·rename_i hle
   unfold bU Ga1 gU;simp only[Bcz,Bck];refine⟨a.toNat,hb.lt,(b-1).toNat,?_,?_⟩
   ·rw[show ((a.toNat:Nat):Int)=a by omega];omega
   ·rw[show ((a.toNat:Nat):Int)=a by omega,show (((b-1).toNat:Nat):Int)=b-1 by omega,if_pos gj,show b-1+1=b by omega]
    exact List.mem_singleton.2 rfl
  ·cases gj
theorem Aan (t:aM):pQ (aI t):=by
 unfold aI pQ;exact List.Pairwise.filter _ (Rar t.rows)
theorem Da6 {t:aM}{x:List Int}(h:x∈aI t):x∈bU t.rows:=by
 unfold aI at h;exact (List.mem_filter.1 h).1
theorem nV {t:aM}(ht:bG t=true):(aI t).length<=30:=by
 unfold aI;exact Aci (Bcb _ _) (Eau ht)
theorem dA {t:aM}(ht:bG t=true){x:List Int}(h:x∈aI t):fB t.n x/\(fM t (atI x 0) (atI x 1)).state=3/\x=[atI x 0,atI x 1]/\InB x 0/\InB x 1:=by
 obtain⟨a,b,h1,h2,h3⟩:=iI ht (Da6 h);exact⟨⟨h1,h2⟩,h3,(qQ h1).symm,a,b⟩
structure Ta7 (t:aM) (l:List (List Int)) (u:aM):Prop where
 ok:bG u=true
 n:u.n=t.n
 row:∀ rep no,inst t.n rep no=true->fM u rep no=if [rep,no]∈l then fM t rep no else row0 t.n
theorem Ta7.com {t u:aM}(ht:bG t=true)(h:Ta7 t (aI t) u):bU u.rows=aI t:=by
 refine vV (Rar _) (Aan t) fun x=>?_
 rw[Hbc h.ok,h.n];constructor
 ·rintro⟨⟨h2,hi⟩,hc⟩
  unfold zK at hc;rw[h.row _ _ hi]at hc;split at hc
  ·rename_i hm
   rw[<- qQ h2];exact hm
  ·cases hc
 ·intro hx
  obtain⟨hi,hs,he,-⟩:=dA ht hx;refine⟨hi,?_⟩;unfold zK;rw[h.row _ _ hi.2,if_pos (by rw[<- he];exact hx),hs];rfl
noncomputable def gM (t:aM):List (List Int):=(Cck (aI t).length).map fun i:Nat=>xA (aI t) (fM t (atI (atI (aI t) (i:Int)) 0) (atI (atI (aI t) (i:Int)) 1)).attr.deps (atI (aI t) (i:Int)) (aI t).length
theorem Ta7.graph {t u:aM}(ht:bG t=true)(h:Ta7 t (aI t) u):La7 u=gM t:=by
 unfold La7 oV gM;rw[h.com ht];refine Ccl fun i hi=>?_
 rw[Bck]at hi;have hm:=at_mem hi;obtain⟨hx,hs,he,-⟩:=dA ht hm;rw[h.row _ _ hx.2,if_pos (by rw[<- he];exact hm)]
theorem Ia0 (t:aM):(gM t).length=(aI t).length:=by simp[gM]
theorem Bbb {t:aM}{r:List Int}(h:r∈gM t):r.length<=(aI t).length/\∀ x∈r,0<=x/\x<(aI t).length:=by
 unfold gM at h;obtain⟨i,hi,rfl⟩:=List.mem_map.1 h;refine⟨Iaw ..,fun x hx=>?_⟩;obtain⟨k,hk,-,rfl⟩:=Iav.1 hx;omega
theorem Bbc (t:aM):GOk (gM t):=fun r hr x hx=>by
 have:=(Bbb hr).2 x hx;unfold InB;rw[Ia0];exact this
def Dar (t:aM)(x:List Int):Int:=100*(fM t (atI x 0) (atI x 1)).attr.seq+10*atI x 0+atI x 1
noncomputable def zG (t:aM):List Int:=(aI t).map (Dar t)
theorem Qai (t:aM):(zG t).length=(aI t).length:=by simp[zG]
theorem Zan {n:Int}{r:bR}(h:rowOk n r=true):0<=r.attr.seq/\r.attr.seq<=999:=by
 unfold rowOk at h;simp only[Zbd]at h;obtain⟨-,h⟩:=h;split at h
 ·simp only[Zbd,decide_eq_true_eq]at h
  rw[h.2];unfold none0;simp
 ·simp only[Zbd]at h
  have:=h.2;unfold lY inR at this;simp only[Zbd,decide_eq_true_eq]at this;omega
theorem Cat {t:aM}(ht:bG t=true){x:List Int}(h:fB t.n x):0<=(fM t (atI x 0) (atI x 1)).attr.seq/\(fM t (atI x 0) (atI x 1)).attr.seq<=999/\0<=atI x 0/\atI x 0<=4/\1<=atI x 1/\atI x 1<=6:=by
 have h1:=Zan (mW ht h.2);have h2:=bJ h.2;have h3:=aY (bA ht);omega
theorem Gbb {t:aM}(ht:bG t=true){x:List Int}(h:fB t.n x):0<=Dar t x/\Dar t x<=1000000000:=by
 have:=Cat ht h;unfold Dar;omega
theorem Van {t:aM}(ht:bG t=true){x y:List Int}(hx:fB t.n x)(hy:fB t.n y)(h:Dar t x=Dar t y):x=y:=by
 have h1:=Cat ht hx;have h2:=Cat ht hy;unfold Dar at h;rw[<- qQ hx.1,<- qQ hy.1];unfold toL prL;dsimp only;have e1:atI x 0=atI y 0:=by omega
 have e2:atI x 1=atI y 1:=by omega
 rw[e1,e2]
theorem Vam {t:aM}{j:Int}(h:InB (aI t) j):atI (zG t) j=Dar t (atI (aI t) j):=by
 obtain⟨k,rfl⟩:∃ k:Nat,j=(k:Int):=⟨j.toNat,by unfold InB at h;omega⟩;have hk:=aH.1 h;unfold zG;rw[bC (by rw[Zbt];exact hk),Bc0,bC hk]
theorem Qaj {t:aM}(ht:bG t=true):∀ x y,InB (gM t) x->InB (gM t) y->atI (zG t) x=atI (zG t) y->x=y:=by
 intro x y hx hy h;have qj:InB (aI t) x:=by unfold InB at hx ⊢;rw[Ia0]at hx;exact hx
 have sd:InB (aI t) y:=by unfold InB at hy ⊢;rw[Ia0]at hy;exact hy
 rw[Vam qj,Vam sd]at h;have e:=Van ht (dA ht (fT qj)).1 (dA ht (fT sd)).1 h;obtain⟨i,rfl⟩:∃ k:Nat,x=(k:Int):=⟨x.toNat,by unfold InB at hx;omega⟩;obtain⟨j,rfl⟩:∃ k:Nat,y=(k:Int):=⟨y.toNat,by unfold InB at hy;omega⟩;rw[bC (aH.1 qj),bC (aH.1 sd)]at e;have:=(Ccq (Aam (Aan t))).1 e;omega
theorem Abq {t:aM}(ht:bG t=true):∀ k∈zG t,0<=k/\k<=1000000000:=by
 intro k hk;unfold zG at hk;obtain⟨x,hx,rfl⟩:=List.mem_map.1 hk;exact Gbb ht (dA ht hx).1
noncomputable def sS (t:aM):List Int:=nH (gM t) (zG t)
noncomputable def pU (t:aM):List (List Int):=(sS t).map fun j=>atI (aI t) j
theorem Ha9 {t:aM}{j:Int}(h:j∈sS t):InB (aI t) j:=by
 have:=(Las (Bbc t)).1 h;unfold InB at this ⊢;rw[Ia0]at this;exact this
theorem Nad (t:aM):(sS t).length<=(aI t).length:=by
 have:=Lat (Bbc t) (zG t);rw[Ia0]at this;exact this
theorem Gau (t:aM):(pU t).length<=(aI t).length:=by unfold pU;rw[Zbt];exact Nad t
theorem Cab {t:aM}{x:List Int}(h:x∈pU t):x∈aI t:=by
 unfold pU at h;obtain⟨j,hj,rfl⟩:=List.mem_map.1 h;exact fT (Ha9 hj)
theorem Va0 {n:Int}{l:List bR}{no:Int}(h:no<=l.length):ext n l no=l:=by
 unfold ext;rw[show (no-l.length).toNat=0 by omega,List.replicate_zero,Zb4]
def Obm (rd:List (List Int))(s:aM)(k:Nat)(i:Nat):aM:=if decide (iV rd [(k:Int),(i:Int)+1]<0) then Ja6 s (k:Int) ((i:Int)+1) (row0 s.n) else s
def Ibm (rd:List (List Int))(k:Nat):Nat->aM->aM
 |0,s=>s
 |m+1,s=>Obm rd (Ibm rd k m s) k m
def Ra7 (rd:List (List Int))(t:aM):Nat->aM
 |0=>t
 |k+1=>Ibm rd k (atI t.rows (k:Int)).length (Ra7 rd t k)
theorem Qa5 {rd:List (List Int)}{x:List Int}:iV rd x<0↔x∉rd:=by
 have h:=dF (fun y=>decide (x=y)) rd;constructor
 ·intro h1 hm
  have:rd.any (fun y=>decide (x=y))=true:=List.any_eq_true.2 ⟨x,hm,by simp⟩;rw[this,decide_eq_true_eq]at h;unfold iV at h1;omega
 ·intro hm
  have:rd.any (fun y=>decide (x=y))=false:=by
   rw[List.any_eq_false];intro y hy e;exact hm (by rw[of_decide_eq_true e];exact hy)
  rw[this,decide_eq_false_iff_not]at h;unfold iV;omega
structure Waj (rd:List (List Int)) (t s:aM) (k m:Nat):Prop where
 ok:bG s=true
 n:s.n=t.n
 len:∀ j:Nat,(atI s.rows (j:Int)).length=(atI t.rows (j:Int)).length
 row:∀ rep no,inst t.n rep no=true->fM s rep no=if (rep<k\/(rep=k/\no<=m))/\[rep,no]∉rd then row0 t.n else fM t rep no
theorem Waj.rowsLen {rd:List (List Int)}{t s:aM}{k m:Nat}(ht:bG t=true)(h:Waj rd t s k m):s.rows.length=t.rows.length:=by
 have h1:=dM ht;have h2:=dM h.ok;have h3:=h.n;omega
theorem Waj.stepS {rd:List (List Int)}{t s:aM}{k m:Nat}(ht:bG t=true)(h:Waj rd t s k m)(hk:k<t.rows.length)(hm:m<(atI t.rows (k:Int)).length):Waj rd t (Obm rd s k m) k (m+1):=by
 have hlen:=dM ht;have h6:=(dV ht (at_mem hk)).1
 have hi:inst t.n (k:Int) ((m:Int)+1)=true:=by
  unfold inst inR;simp only[Zbd,decide_eq_true_eq];omega
 have eS:inst s.n (k:Int) ((m:Int)+1)=true:=by rw[h.n];exact hi
 unfold Obm;cases hf:decide (iV rd [(k:Int),(m:Int)+1]<0)
 ·have j9:[(k:Int),(m:Int)+1]∈rd:=by
   rw[decide_eq_false_iff_not,Qa5]at hf;exact Classical.not_not.1 hf
  refine⟨h.ok,h.n,h.len,fun rep no hr=>?_⟩;simp only[Zbg,if_false];rw[h.row rep no hr];have h0:=bJ hr;by_cases e:rep=(k:Int)/\no=(m:Int)+1
  ·obtain⟨e1,e2⟩:=e
   subst e1;subst e2
   rw[if_neg (fun hh=>hh.2 j9),if_neg (fun hh=>hh.2 j9)]
  ·have:(rep<(k:Int)\/rep=(k:Int)/\no<=(m:Int))↔(rep<(k:Int)\/rep=(k:Int)/\no<=((m+1:Nat):Int)):=by omega
   simp only[this]
 ·have vc:[(k:Int),(m:Int)+1]∉rd:=Qa5.1 (of_decide_eq_true hf)
  simp only[if_true];refine⟨Saa h.ok eS (by rw[h.n];exact Zao (bA ht)),by unfold Ja6;exact h.n,fun j=>?_,fun rep no hr=>?_⟩
  ·have qz:InB s.rows (k:Int):=aH.2 (by rw[h.rowsLen ht];exact hk)
   unfold Ja6;dsimp only;by_cases e:j=k
   ·subst e
    rw[rM qz,yH,Va0 (by rw[h.len];omega),h.len]
   ·rw[rO (by omega) (by omega) (by omega),h.len]
  ·rw[Oax h.ok eS (by rw[h.n];exact hr),h.row rep no hr,h.n]
   have h0:=bJ hr;by_cases e:rep=(k:Int)/\no=(m:Int)+1
   ·obtain⟨e1,e2⟩:=e
    subst e1;subst e2
    rw[if_pos ⟨rfl,rfl⟩,if_pos ⟨.inr ⟨rfl,by omega⟩,vc⟩]
   ·rw[if_neg e]
    have:(rep<(k:Int)\/rep=(k:Int)/\no<=(m:Int))↔(rep<(k:Int)\/rep=(k:Int)/\no<=((m+1:Nat):Int)):=by omega
    simp only[this]
theorem Waj.stepN {rd:List (List Int)}{t s:aM}{k:Nat}(ht:bG t=true)(h:Waj rd t s k 0)(hk:k<t.rows.length):∀ m,m<=(atI t.rows (k:Int)).length->Waj rd t (Ibm rd k m s) k m
 |0,_=>h
 |m+1,hm=>(Waj.stepN ht h hk m (by omega)).stepS ht hk (by omega)
theorem Waj.all {rd:List (List Int)}{t:aM}(ht:bG t=true)(im:∀ x∈rd,x∈bU t.rows):∀ k,k<=t.rows.length->Waj rd t (Ra7 rd t k) k 0
 | 0, _ => by
  refine⟨ht,rfl,fun _=>rfl,fun rep no hr=>?_⟩;have h0:=bJ hr;rw[if_neg (by omega)];rfl
 | k + 1, hk => by
  have h:=(Waj.all ht im k (by omega)).stepN ht (by omega) (atI t.rows (k:Int)).length (Zbr _);refine⟨h.ok,h.n,h.len,fun rep no hr=>?_⟩;show fM (Ibm rd k _ (Ra7 rd t k)) rep no=_
  rw[h.row rep no hr];have h0:=bJ hr;by_cases e:rep=(k:Int)/\¬ no<=((atI t.rows (k:Int)).length:Int)
  ·obtain⟨e1,e2⟩:=e
   have er:fM t rep no=row0 t.n:=by
    unfold fM;rw[e1,if_neg e2]
   rw[er,ite_self,ite_self]
  ·have:(rep<(k:Int)\/rep=(k:Int)/\no<=((atI t.rows (k:Int)).length:Int))↔(rep<((k+1:Nat):Int)\/rep=((k+1:Nat):Int)/\no<=((0:Nat):Int)):=by omega
   simp only[this]
theorem Gb6 {t:aM}(ht:bG t=true):Ta7 t (aI t) (Ra7 (aI t) t t.rows.length):=by
 have h:=Waj.all ht (rd:=aI t) (fun x hx=>Da6 hx) t.rows.length (Zbr _);refine⟨h.ok,h.n,fun rep no hr=>?_⟩;rw[h.row rep no hr];have h0:=bJ hr;have h1:=dM ht;by_cases e:[rep,no]∈aI t
 ·rw[if_pos e,if_neg (fun hh=>hh.2 e)]
 ·rw[if_neg e,if_pos ⟨.inl (by omega),e⟩]
noncomputable def Yaq (t:aM):Nat->aM
 |0=>⟨t.n,Zbq t.n.toNat []⟩
 |m+1=>Ja6 (Yaq t m) (atI (atI (aI t) (m:Int)) 0) (atI (atI (aI t) (m:Int)) 1) (fM t (atI (atI (aI t) (m:Int)) 0) (atI (atI (aI t) (m:Int)) 1))
theorem Oai {t:aM}(ht:bG t=true):∀ m,m<=(aI t).length->Ta7 t ((aI t).take m) (Yaq t m)
 | 0, _ => by
  have hg:=aY (bA ht);refine⟨?_,rfl,fun rep no hr=>?_⟩
  ·unfold Yaq bG
   simp only[Zbd,Acj,Zb6,beq_iff_eq];refine⟨⟨bA ht,by omega⟩,fun l hl=>?_⟩;rw[Bc4 hl];simp
  ·have h0:=bJ hr
   rw[if_neg (by simp)];unfold Yaq fM
   have:atI (Zbq t.n.toNat ([]:List bR)) rep=[]:=by
    unfold atI;rw[Zbk,List.getElem?_replicate];split<;>rfl
   rw[this,if_neg (by simp only[Zby];omega)]
 | m + 1, hm => by
  have h:=Oai ht m (by omega);have hx:=at_mem (show m<(aI t).length by omega);obtain⟨hi,hs,he,-⟩:=dA ht hx;have eS:inst (Yaq t m).n (atI (atI (aI t) (m:Int)) 0) (atI (atI (aI t) (m:Int)) 1)=true:=by rw[h.n];exact hi.2
  refine⟨Saa h.ok eS (by rw[h.n];exact mW ht hi.2),h.n,fun rep no hr=>?_⟩;show fM (Ja6 (Yaq t m) _ _ _) rep no=_
  rw[Oax h.ok eS (by rw[h.n];exact hr),h.row rep no hr];rw[<- take_at (show m<(aI t).length by omega)];by_cases e:rep=atI (atI (aI t) (m:Int)) 0/\no=atI (atI (aI t) (m:Int)) 1
  ·rw[if_pos e,if_pos (Zbh _ (by rw[e.1,e.2,<- he];exact List.mem_singleton.2 rfl)),e.1,e.2]
  ·rw[if_neg e]
   have:[rep,no]∈(aI t).take m++[atI (aI t) (m:Int)]↔[rep,no]∈(aI t).take m:=by
    rw[Bc8,Zbp];refine⟨fun hh=>hh.resolve_right fun e2=>e ?_,.inl⟩;rw[<- e2];exact⟨rfl,rfl⟩
   simp only[this]
theorem Hbr {t:aM}(ht:bG t=true):Ta7 t (aI t) (Yaq t (aI t).length):=by
 have h:=Oai ht _ (Zbr (aI t).length);rw[Acn]at h;exact h
end Go.Proofs.YtcbkmmhkccnamaaGreat.Rf
