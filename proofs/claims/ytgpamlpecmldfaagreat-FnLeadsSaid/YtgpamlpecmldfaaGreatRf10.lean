import Derived.Test.YtgpamlpecmldfaaGreatRf9
set_option linter.all false
open Bool renaming and_eq_true → Vbk, false_eq_true → Vbm, not_eq_true' → Vb9
open List renaming mem_cons → Vbu, length_append → Vbw, replicate → Wba, length_cons → Wbb, getElem_mem → Xbb, pairwise_cons → Xbg, pairwise_iff_getElem → Xbm
open Nat renaming le_refl → Vb6
open Option.some renaming inj → Wbk
namespace Go.Proofs.YtgpamlpecmldfaaGreat.Rf
theorem La3 (n:Int):Had [] n=[n]:=by simp[Had,pK]
theorem Fa8 {n y:Int}:∀ {xs:List Int},y∈Had xs n↔y∈xs\/y=n
 |[]=>by rw[La3];simp
 | x :: xs => by
  rw[wM];split
  ·rw[Vbu,Fa8 (xs:=xs),Vbu,or_assoc]
  ·split
   ·rename_i h
    have:x=n:=by simpa using h
    subst this;simp only[Vbu];exact⟨fun h=>.inl h,fun h=>h.elim id fun e=>.inl e⟩
   ·simp only[Vbu]
    constructor
    ·rintro (h|h)
     ·exact .inr h
     ·exact .inl h
    ·rintro (h|h)
     ·exact .inr h
     ·exact .inl h
theorem Tau {n:Int}:∀ {xs:List Int},uN xs n=false->(Had xs n).length=xs.length+1
 |[],_=>by rw[La3];rfl
 | x :: xs, h => by
  have h1:¬ (x==n)=true/\uN xs n=false:=by
   unfold uN at h ⊢;rw[List.any_cons,Bool.or_eq_false_iff]at h;exact⟨by rw[h.1];exact Bool.false_ne_true,h.2⟩
  rw[wM];split
  ·rw[Wbb,Tau h1.2,Wbb]
  ·rw[if_neg h1.1];rfl
theorem Xa6 {n:Int}:∀ {xs:List Int},xs.Pairwise (· < ·)->(Had xs n).Pairwise (· < ·)
 |[],_=>by rw[La3];exact List.pairwise_singleton _ _
 | x :: xs, h => by
  obtain⟨h1,h2⟩:=Xbg.1 h;rw[wM];split
  ·rename_i hx
   refine Xbg.2 ⟨fun y hy=>?_,Xa6 h2⟩
   rcases Fa8.1 hy with hy|rfl
   ·exact h1 y hy
   ·exact hx
  ·split
   ·exact h
   ·rename_i hx hn
    have hn':¬ x=n:=by simpa using hn
    refine Xbg.2 ⟨fun y hy=>?_,h⟩
    rcases Vbu.1 hy with rfl|hy
    ·omega
    ·have:=h1 y hy
     omega
theorem Dbb {xs:List Int}{lo hi:Int}:Ga7 xs lo hi=true↔(∀ x∈xs,lo<=x/\x<=hi)/\xs.Pairwise (· < ·):=by
 constructor
 ·intro h
  refine⟨Lax h,Xbm.2 ?_⟩;unfold Ga7 at h;rw[fZ]at h;intro i j hi hj se
  induction j with
  |zero=>omega
  | succ j ih =>
   have h1:=h (j+1) hj;rw[Vbk]at h1;have h2:=h1.2;unfold Faq at h2;rw[bH hj,show ((j+1:Nat):Int)-1=((j:Nat):Int) by omega,bH (show j<xs.length by omega),decide_eq_true (show 0<j+1 by omega),Bool.true_and,Vb9,decide_eq_false_iff_not]at h2
   rcases Nat.lt_or_ge i j with h3|h3
   ·have:=ih (by omega) h3
    omega
   ·obtain rfl:i=j:=by omega
    omega
 ·rintro⟨h1,h2⟩
  unfold Ga7;rw[fZ];intro i hi;rw[Vbk];refine⟨by rw[bH hi];exact Aao.2 (h1 _ (Xbb hi)),?_⟩;unfold Faq;by_cases h0:0<i
  ·have:=Xbm.1 h2 (i-1) i (by omega) hi (by omega)
   rw[bH hi,show ((i:Nat):Int)-1=((i-1:Nat):Int) by omega,bH (show i-1<xs.length by omega)];simp;omega
  ·simp[h0]
theorem Oag {xs:List Int}{lo hi n:Int}(h:Ga7 xs lo hi=true)(h1:lo<=n)(h2:n<=hi):Ga7 (Had xs n) lo hi=true:=by
 rw[Dbb]at h ⊢;exact⟨fun x hx=>(Fa8.1 hx).elim (h.1 x) fun e=>by omega,Xa6 h.2⟩
theorem Pah {xs:List Int}{n k:Int}(h:uN xs k=true):uN (Had xs n) k=true:=oV.2 (Fa8.2 (.inl (oV.1 h)))
theorem Dbt {n:Int}{a b:bN}(ha:bZ n a=true)(hb:bZ n b=true):bZ n (wX a b)=true:=by
 obtain⟨a1,a2,a3⟩:=Dae ha;obtain⟨b1,b2,b3⟩:=Dae hb;refine Dad ?_ (by rw[wW];exact a2) fun k hk=>?_
 ·show 0<=max a.seq b.seq/\max a.seq b.seq<=999
  omega
 ·rw[wW]at hk
  have h1:=a3 k hk;have h2:=b3 k (by omega);show 0<=atI (Cak a.deps b.deps a.deps.length) (k:Int)/\atI (Cak a.deps b.deps a.deps.length) (k:Int)<=6
  rw[Ta5 hk];omega
abbrev vD:=aM×List aN×List fC×Bool
def Iaj (t:aM)(rep no:Int)(c:kM)(a:bN):bF:=⟨(eF t rep no).ballot,(eF t rep no).vote,3,c,a⟩
def Pa5 (rep no:Int)(c:kM)(a:bN):fC:=⟨5,0,0,rep,no,0,0,0,c,a⟩
def Hbs (x:vD)(rep no:Int)(c:kM)(a:bN):vD:=(nY x.1 rep no (Iaj x.1 rep no c a),lC (rep,no) x.2.1,x.2.2.1,x.2.2.2&&rowOk x.1.n (Iaj x.1 rep no c a))
def Ua8 (me:Int)(x:vD)(rep no:Int)(c:kM)(a:bN):vD:=(nY x.1 rep no (Iaj x.1 rep no c a),lC (rep,no) x.2.1,x.2.2.1++vU x.1.n me (Pa5 rep no c a) x.1.n.toNat,x.2.2.2&&rowOk x.1.n (Iaj x.1 rep no c a))
def Qap (me:Int)(x:vD)(l:aN):vD:=(Saq x.1 l,Sas me x.1 x.2.1 l,Ab9 me x.1 x.2.2.1 l,x.2.2.2&&(Bag x.1 l||rowOk x.1.n (Ia3 l)))
def Hbz (me:Int)(x:vD)(rep no b:Int)(c:kM)(a:bN):vD:=(nY x.1 rep no (kG b c a),Aam (nG me rep no b c a) x.2.1,x.2.2.1++vU x.1.n me (Dac rep no b c a) x.1.n.toNat,x.2.2.2&&rowOk x.1.n (kG b c a))
def oD (ls:List aN)(m:fC):aN:=atI ls ((lS (m.rep,m.no) ls:Nat):Int)
def Qam (ls:List aN)(m:fC)(ph:Int):Bool:=Haw (m.rep,m.no) ls&&(oD ls m).phase==ph&&(oD ls m).ballot==m.ballot&&!uN (oD ls m).who m.src
def fU (ls:List aN)(m:fC):aN:=⟨(oD ls m).rep,(oD ls m).no,(oD ls m).ballot,(oD ls m).phase,(oD ls m).cmd,(oD ls m).first,(oD ls m).attr,(oD ls m).same,Had (oD ls m).who m.src,(oD ls m).seen⟩
def Fa6 (ls:List aN)(m:fC):aN:=⟨(fU ls m).rep,(fU ls m).no,(fU ls m).ballot,(fU ls m).phase,(fU ls m).cmd,(fU ls m).first,wX (fU ls m).attr m.attr,(fU ls m).same&&decide (m.attr=(fU ls m).first),(fU ls m).who,(fU ls m).seen⟩
def Ta2 (m:fC):bF:=⟨m.ballot,m.vote,m.state,m.cmd,m.attr⟩
def Kag (ls:List aN)(m:fC):aN:=⟨(fU ls m).rep,(fU ls m).no,(fU ls m).ballot,(fU ls m).phase,(fU ls m).cmd,(fU ls m).first,(fU ls m).attr,(fU ls m).same,(fU ls m).who,(fU ls m).seen++[Ta2 m]⟩
def plA (x:vD)(l:aN):vD:=(x.1,Aam l x.2.1,x.2.2.1,x.2.2.2)
def Ab6 (me:Int)(x:vD)(m:fC):vD :=
  if Qam x.2.1 m 1 then
    (if (Fa6 x.2.1 m).ballot==0&&((Fa6 x.2.1 m).who.length:Int)==x.1.n&&(Fa6 x.2.1 m).same then Ua8 me (plA x (Fa6 x.2.1 m)) (Fa6 x.2.1 m).rep (Fa6 x.2.1 m).no (Fa6 x.2.1 m).cmd (Fa6 x.2.1 m).first
     else if decide (x.1.n / 2<((Fa6 x.2.1 m).who.length:Int))&&(decide (0<(Fa6 x.2.1 m).ballot)||!(Fa6 x.2.1 m).same) then Qap me (plA x (Fa6 x.2.1 m)) (Fa6 x.2.1 m)
     else plA x (Fa6 x.2.1 m))
  else x
def Ibt (me:Int)(x:vD)(m:fC):vD :=
 if Qam x.2.1 m 2 then
  (if decide (x.1.n / 2<((fU x.2.1 m).who.length:Int)) then Ua8 me (plA x (fU x.2.1 m)) (fU x.2.1 m).rep (fU x.2.1 m).no (fU x.2.1 m).cmd (fU x.2.1 m).attr else plA x (fU x.2.1 m))
 else x
def Obs (n:Int)(l:aN):aN:=⟨l.rep,l.no,l.ballot,l.phase,(fF n l.seen).2.1,l.first,(fF n l.seen).2.2,l.same,l.who,l.seen⟩
def Pbu (t:aM)(l:aN):bN:=wX (fF t.n l.seen).2.2 (zC t (fF t.n l.seen).2.1 l.rep l.no)
def Lbh (me:Int)(x:vD)(l:aN):vD :=
 if !((fF x.1.n l.seen).1==2) then Qap me x (Obs x.1.n l)
 else if Bag x.1 l then (x.1,lC (l.rep,l.no) x.2.1,x.2.2.1,x.2.2.2)
 else Hbz me x l.rep l.no l.ballot (fF x.1.n l.seen).2.1 (Pbu x.1 l)
def Ab5 (me:Int)(x:vD)(m:fC):vD :=
 if Qam x.2.1 m 3 then
  (if decide (((Kag x.2.1 m).who.length:Int)<=x.1.n / 2) then plA x (Kag x.2.1 m) else Lbh me (plA x (Kag x.2.1 m)) (Kag x.2.1 m))
 else x
def Taj (me:Int)(x:vD)(m:fC)(dst:Int):vD:=(x.1,x.2.1,x.2.2.1++[Vah x.1.n me m dst],x.2.2.2)
def Vai (x:vD)(rep no:Int)(r:bF):vD:=(nY x.1 rep no r,x.2.1,x.2.2.1,x.2.2.2&&rowOk x.1.n r)
def Pbc (t:aM)(m:fC):bN:=wX m.attr (zC t m.cmd m.rep m.no)
def Pbb (m:fC)(a:bN):fC:=⟨2,0,0,m.rep,m.no,m.ballot,0,0,Wa0,a⟩
def Dbg (me:Int)(x:vD)(m:fC)(row:bF):vD :=
 if decide (m.ballot<row.ballot)||(row.state==2&&decide (m.ballot<=row.vote)) then x
 else if !(row.state==1)||!(row.vote==m.ballot) then Taj me (Vai x m.rep m.no (kG m.ballot m.cmd (Pbc x.1 m))) (Pbb m (Pbc x.1 m)) m.src
 else Taj me x (Pbb m row.attr) m.src
def Sb2 (m:fC):fC:=⟨4,0,0,m.rep,m.no,m.ballot,0,0,Wa0,⟨0,[]⟩⟩
def Lbk (me:Int)(x:vD)(m:fC)(row:bF):vD :=
 if decide (row.ballot<=m.ballot) then Taj me (Vai x m.rep m.no ⟨m.ballot,m.ballot,2,m.cmd,m.attr⟩) (Sb2 m) m.src else x
def Sbw (m:fC)(row:bF):fC:=⟨7,0,0,m.rep,m.no,m.ballot,row.vote,row.state,row.cmd,row.attr⟩
def Kb0 (me:Int)(x:vD)(m:fC)(row:bF):vD :=
 if decide (row.ballot<=m.ballot) then Taj me (Vai x m.rep m.no (sQ m.ballot row)) (Sbw m row) m.src else x
def Qaz (me:Int)(x:vD)(m:fC)(row:bF):vD :=
 if m.kind==1 then Dbg me x m row else if m.kind==2 then Ab6 me x m else if m.kind==3 then Lbk me x m row else if m.kind==4 then Ibt me x m
 else if m.kind==5 then Hbs x m.rep m.no m.cmd m.attr else if m.kind==6 then Kb0 me x m row else Ab5 me x m
def Fb6 (r:pO)(m:fC):Bool:=bV r&&Hah r.table.n m&&m.dst==r.me
def Jab (r:pO)(m:fC):vD :=
 if !((eF r.table m.rep m.no).state==3) then Qaz r.me (r.table,r.leads,[],true) m (eF r.table m.rep m.no)
 else if m.kind==1||m.kind==3||m.kind==6 then Taj r.me (r.table,r.leads,[],true) (Pa5 m.rep m.no (eF r.table m.rep m.no).cmd (eF r.table m.rep m.no).attr) m.src
 else (r.table,r.leads,[],true)
def vR (r:pO)(m:fC):Ibb :=
 if Fb6 r m then (if (Jab r m).2.2.2&&bV ⟨r.me,(Jab r m).1,(Jab r m).2.1⟩ then (⟨r.me,(Jab r m).1,(Jab r m).2.1⟩,(Jab r m).2.2.1,true) else Aa3) else Aa3
theorem yO {n:Int}{m:fC}(h:Hah n m=true):bR n=true/\(1<=m.kind/\m.kind<=7)/\inst n m.rep m.no=true/\(0<=m.src/\m.src<=n-1)/\(m.src==m.dst)=false/\inR m.ballot 0 9999=true/\bZ n m.attr=true/\iZ m.cmd=true /\
  (m.kind=7->rowOk n (Ta2 m)=true/\(m.state==3)=false):=by
 unfold Hah at h;simp only[Vbk,Vb9]at h;obtain⟨⟨⟨⟨⟨⟨⟨h1,h2⟩,h3⟩,h4⟩,h5⟩,h6⟩,h7⟩,h8⟩:=h;refine⟨h1,Aao.1 h2,h3,Aao.1 h4,h6,h7,?_⟩;split at h8
 ·rename_i hk
  simp only[Vbk,Vb9]at h8;exact⟨pJ h8.2 h1,kP h8.2,fun _=>⟨h8.2,h8.1⟩⟩
 ·rename_i hk
  simp only[Vbk]at h8;exact⟨h8.1.2,h8.1.1.2,fun e=>absurd e (by simpa using hk)⟩
theorem Ga5 {n:Int}{r:bF}(hg:bR n=true)(h:rowOk n r=true):inR r.ballot 0 9999=true/\iZ r.cmd=true/\bZ n r.attr=true:=by
 have h1:=nP h;exact⟨by simp[inR,h1.1,h1.2],kP h,pJ h hg⟩
theorem Abw {me:Int}{x:vD}{l:aN}(h:bV ⟨me,x.1,x.2.1⟩=true)(hi:inst x.1.n l.rep l.no=true)(hx:(Qap me x l).2.2.2=true):bV ⟨me,(Qap me x l).1,(Qap me x l).2.1⟩=true:=by
 unfold Qap at hx ⊢;simp only at hx ⊢;rw[Vbk,Bool.or_eq_true]at hx;unfold Saq Sas;split
 ·exact sP h _
 ·rename_i hs
  rcases hx.2 with e|e
  ·exact absurd e hs
  ·obtain⟨p1,p2,p3⟩:=Ga5 (aU (bJ h)) e
   exact nR (nQ h hi e) (yQ hi p1 (gD h) p3 p2 (.inr ⟨rfl,rfl⟩))
theorem Hby {me:Int}{x:vD}{rep no b:Int}{c:kM}{a:bN}(h:bV ⟨me,x.1,x.2.1⟩=true)(hi:inst x.1.n rep no=true)(hx:(Hbz me x rep no b c a).2.2.2=true):bV ⟨me,(Hbz me x rep no b c a).1,(Hbz me x rep no b c a).2.1⟩=true:=by
 unfold Hbz at hx ⊢;simp only at hx ⊢;rw[Vbk]at hx;obtain⟨p1,p2,p3⟩:=Ga5 (aU (bJ h)) hx.2;exact nR (nQ h hi hx.2) (yQ hi p1 (gD h) p3 p2 (.inl rfl))
theorem Xak {me:Int}{x:vD}{rep no:Int}{c:kM}{a:bN}(h:bV ⟨me,x.1,x.2.1⟩=true)(hi:inst x.1.n rep no=true)(hx:(Ua8 me x rep no c a).2.2.2=true):bV ⟨me,(Ua8 me x rep no c a).1,(Ua8 me x rep no c a).2.1⟩=true:=by
 unfold Ua8 at hx ⊢;simp only at hx ⊢;rw[Vbk]at hx;exact sP (nQ h hi hx.2) _
theorem Hbr {me:Int}{x:vD}{rep no:Int}{c:kM}{a:bN}(h:bV ⟨me,x.1,x.2.1⟩=true)(hi:inst x.1.n rep no=true)(hx:(Hbs x rep no c a).2.2.2=true):bV ⟨me,(Hbs x rep no c a).1,(Hbs x rep no c a).2.1⟩=true:=by
 unfold Hbs at hx ⊢;simp only at hx ⊢;rw[Vbk]at hx;exact sP (nQ h hi hx.2) _
theorem Rak {me:Int}{x:vD}{rep no:Int}{r:bF}(h:bV ⟨me,x.1,x.2.1⟩=true)(hi:inst x.1.n rep no=true)(hx:(Vai x rep no r).2.2.2=true):bV ⟨me,(Vai x rep no r).1,(Vai x rep no r).2.1⟩=true:=by
 unfold Vai at hx ⊢;simp only at hx ⊢;rw[Vbk]at hx;exact nQ h hi hx.2
theorem Oav {me:Int}{t:aM}{ls:List aN}{m:fC}{ph:Int}(h:bV ⟨me,t,ls⟩=true)(hb:Qam ls m ph=true) :
  InB ls ((lS (m.rep,m.no) ls:Nat):Int)/\gP t.n me (oD ls m)=true/\(oD ls m).rep=m.rep/\(oD ls m).no=m.no/\(oD ls m).phase=ph/\(oD ls m).ballot=m.ballot/\uN (oD ls m).who m.src=false:=by
 unfold Qam at hb;simp only[Vbk,Vb9,beq_iff_eq]at hb;obtain⟨⟨⟨b1,b2⟩,b3⟩,b4⟩:=hb;obtain⟨hk,e⟩:=(Aat (fB h)).1 b1;have e2:oD ls m=ls[lS (m.rep,m.no) ls]'hk:=by unfold oD;exact bH hk
 rw[<- e2]at e;refine⟨aX.2 hk,?_,congrArg Prod.fst e,congrArg Prod.snd e,b2,b3,b4⟩;rw[e2];exact (kQ.1 h).2.2.1 _ (Xbb hk)
theorem yR {n me:Int}{l:aN}:gP n me l=true↔inst n l.rep l.no=true/\inR l.ballot 0 9999=true/\Ga7 l.who 0 (n-1)=true/\uN l.who me=true/\bZ n l.first=true/\bZ n l.attr=true /\
  ((l.phase=1/\iZ l.cmd=true/\l.seen=[])\/(l.phase=2/\iZ l.cmd=true/\l.seen=[]/\l.same=false/\l.first=l.attr)\/(l.phase=3/\l.cmd=Wa0/\l.first=none0 n/\l.attr=none0 n/\l.same=false/\l.seen.length=l.who.length/\∀ r∈l.seen,rowOk n r=true/\(r.state==3)=false)):=by
 unfold gP Wa0
 have hz:((l.seen.length:Int)==0)=true↔l.seen=[]:=by
  rw[beq_iff_eq];constructor
  ·intro h;exact List.length_eq_zero_iff.1 (by omega)
  ·intro h;rw[h];rfl
 have hw:((l.seen.length:Int)==(l.who.length:Int))=true↔l.seen.length=l.who.length:=by rw[beq_iff_eq];omega
 by_cases p1:l.phase=1
 ·simp only[p1,beq_self_eq_true,if_true,Vbk,hz]
  constructor
  ·rintro⟨⟨⟨⟨⟨⟨a,b⟩,c⟩,d⟩,e⟩,f⟩,g,i⟩;exact⟨a,b,c,d,e,f,.inl ⟨trivial,g,i⟩⟩
  ·rintro⟨a,b,c,d,e,f,(⟨-,g,i⟩|⟨x,-⟩|⟨x,-⟩)⟩
   ·exact⟨⟨⟨⟨⟨⟨a,b⟩,c⟩,d⟩,e⟩,f⟩,g,i⟩
   ·omega
   ·omega
 ·by_cases p2:l.phase=2
  ·simp only[p2,show ((2:Int)==1)=false from rfl,beq_self_eq_true,if_true,Vbm,if_false,Vbk,hz,Vb9,decide_eq_true_eq]
   constructor
   ·rintro⟨⟨⟨⟨⟨⟨a,b⟩,c⟩,d⟩,e⟩,f⟩,⟨⟨g,i⟩,j⟩,k⟩;exact⟨a,b,c,d,e,f,.inr (.inl ⟨trivial,g,i,j,k⟩)⟩
   ·rintro⟨a,b,c,d,e,f,(⟨x,-⟩|⟨-,g,i,j,k⟩|⟨x,-⟩)⟩
    ·omega
    ·exact⟨⟨⟨⟨⟨⟨a,b⟩,c⟩,d⟩,e⟩,f⟩,⟨⟨g,i⟩,j⟩,k⟩
    ·omega
  ·by_cases p3:l.phase=3
   ·simp only[p3,show ((3:Int)==1)=false from rfl,show ((3:Int)==2)=false from rfl,beq_self_eq_true,if_true,Vbm,if_false,Vbk,hw,Vb9,decide_eq_true_eq,List.all_eq_true]
    constructor
    ·rintro⟨⟨⟨⟨⟨⟨a,b⟩,c⟩,d⟩,e⟩,f⟩,⟨⟨⟨⟨g,i⟩,j⟩,k⟩,o⟩,p⟩;exact⟨a,b,c,d,e,f,.inr (.inr ⟨trivial,g,i,j,k,o,p⟩)⟩
    ·rintro⟨a,b,c,d,e,f,(⟨x,-⟩|⟨x,-⟩|⟨-,g,i,j,k,o,p⟩)⟩
     ·omega
     ·omega
     ·exact⟨⟨⟨⟨⟨⟨a,b⟩,c⟩,d⟩,e⟩,f⟩,⟨⟨⟨⟨g,i⟩,j⟩,k⟩,o⟩,p⟩
   ·have q1:(l.phase==1)=false:=by simpa using p1
    have q2:(l.phase==2)=false:=by simpa using p2
    have q3:(l.phase==3)=false:=by simpa using p3
    simp[q1,q2,q3,p1,p2,p3]
theorem La5 {me:Int}{t:aM}{ls:List aN}{m:fC}{ph:Int}(h:bV ⟨me,t,ls⟩=true)(hb:Qam ls m ph=true)(hs:0<=m.src/\m.src<=t.n-1)(hp:ph≠3):gP t.n me (fU ls m)=true:=by
 obtain⟨o1,o2,o3,o4,o5,o6,o7⟩:=Oav h hb;rw[yR]at o2 ⊢;obtain⟨a,b,c,d,e,f,g⟩:=o2;refine⟨a,b,Oag c hs.1 hs.2,Pah d,e,f,?_⟩
 rcases g with g|g|g
 ·exact .inl g
 ·exact .inr (.inl g)
 ·exact absurd (o5.symm.trans g.1) hp
theorem Yaa {me:Int}{t:aM}{ls:List aN}{m:fC}(h:bV ⟨me,t,ls⟩=true)(hb:Qam ls m 1=true)(hs:0<=m.src/\m.src<=t.n-1)(ha:bZ t.n m.attr=true):gP t.n me (Fa6 ls m)=true:=by
 have h1:=La5 h hb hs (by decide);have h5:=(Oav h hb).2.2.2.2.1;rw[yR]at h1 ⊢;obtain⟨a,b,c,d,e,f,g⟩:=h1;refine⟨a,b,c,d,e,Dbt f ha,?_⟩
 rcases g with g|g|g
 ·exact .inl g
 ·exact absurd (h5.symm.trans g.1) (by decide)
 ·exact absurd (h5.symm.trans g.1) (by decide)
theorem Xax {me:Int}{t:aM}{ls:List aN}{m:fC}(h:bV ⟨me,t,ls⟩=true)(hb:Qam ls m 3=true)(hs:0<=m.src/\m.src<=t.n-1)(hr:rowOk t.n (Ta2 m)=true)(ob:(m.state==3)=false):gP t.n me (Kag ls m)=true:=by
 obtain⟨o1,o2,o3,o4,o5,o6,o7⟩:=Oav h hb;rw[yR]at o2 ⊢;obtain⟨a,b,c,d,e,f,g⟩:=o2;refine⟨a,b,Oag c hs.1 hs.2,Pah d,e,f,?_⟩
 rcases g with g|g|g
 ·exact absurd (o5.symm.trans g.1) (by decide)
 ·exact absurd (o5.symm.trans g.1) (by decide)
 ·obtain⟨g1,g2,g3,g4,g5,g6,g7⟩:=g
  refine .inr (.inr ⟨g1,g2,g3,g4,g5,?_,fun r zy=>?_⟩)
  ·show ((oD ls m).seen++[Ta2 m]).length=(Had (oD ls m).who m.src).length
   rw[Vbw,Tau o7,g6];rfl
  ·rcases List.mem_append.1 zy with h1|h1
   ·exact g7 r h1
   ·rw[List.mem_singleton]at h1
    subst h1;exact⟨hr,ob⟩
theorem Yac {me:Int}{x:vD}{l:aN}(h:bV ⟨me,x.1,x.2.1⟩=true)(hl:gP x.1.n me l=true):bV ⟨me,(plA x l).1,(plA x l).2.1⟩=true:=nR h hl
theorem Fb7 {me:Int}{x:vD}{m:fC}{row:bF}(h:bV ⟨me,x.1,x.2.1⟩=true)(hm:Hah x.1.n m=true)(hx:(Qaz me x m row).2.2.2=true):bV ⟨me,(Qaz me x m row).1,(Qaz me x m row).2.1⟩=true:=by
 obtain⟨m1,m2,m3,m4,m5,m6,m7,m8,m9⟩:=yO hm;unfold Qaz at hx ⊢;split
 ·rw[if_pos (by assumption)]at hx
  unfold Dbg at hx ⊢;split
  ·exact h
  ·rw[if_neg (by assumption)]at hx
   split
   ·rw[if_pos (by assumption)]at hx
    exact Rak (x:=x) h m3 hx
   ·exact h
 rw[if_neg (by assumption)]at hx;split
 ·rw[if_pos (by assumption)]at hx
  unfold Ab6 at hx ⊢;split
  ·rename_i hb
   rw[if_pos hb]at hx;have hl:=Yaa (t:=x.1) h hb m4 m7;have hp:=Yac (x:=x) h hl;have hi:=(iF hl).1;split
   ·rw[if_pos (by assumption)]at hx
    exact Xak (x:=plA x (Fa6 x.2.1 m)) hp hi hx
   ·rw[if_neg (by assumption)]at hx
    split
    ·rw[if_pos (by assumption)]at hx
     exact Abw (x:=plA x (Fa6 x.2.1 m)) hp hi hx
    ·exact hp
  ·exact h
 rw[if_neg (by assumption)]at hx;split
 ·rw[if_pos (by assumption)]at hx
  unfold Lbk at hx ⊢;split
  ·rw[if_pos (by assumption)]at hx
   exact Rak (x:=x) h m3 hx
  ·exact h
 rw[if_neg (by assumption)]at hx;split
 ·rw[if_pos (by assumption)]at hx
  unfold Ibt at hx ⊢;split
  ·rename_i hb
   rw[if_pos hb]at hx;have hl:=La5 (t:=x.1) h hb m4 (by decide);have hp:=Yac (x:=x) h hl;split
   ·rw[if_pos (by assumption)]at hx
    exact Xak (x:=plA x (fU x.2.1 m)) hp (iF hl).1 hx
   ·exact hp
  ·exact h
 rw[if_neg (by assumption)]at hx;split
 ·rw[if_pos (by assumption)]at hx
  exact Hbr (x:=x) h m3 hx
 rw[if_neg (by assumption)]at hx;split
 ·rw[if_pos (by assumption)]at hx
  unfold Kb0 at hx ⊢;split
  ·rw[if_pos (by assumption)]at hx
   exact Rak (x:=x) h m3 hx
  ·exact h
 rename_i k1 k2 k3 k4 k5 k6;rw[if_neg (by assumption)]at hx
 have k7:m.kind=7:=by
  simp only[beq_iff_eq]at k1 k2 k3 k4 k5 k6;omega
 obtain⟨r1,r2⟩:=m9 k7;unfold Ab5 at hx ⊢;split
 ·rename_i hb
  rw[if_pos hb]at hx;have hl:=Xax (t:=x.1) h hb m4 r1 r2;have hp:=Yac (x:=x) h hl;split
  ·exact hp
  ·rw[if_neg (by assumption)]at hx
   unfold Lbh at hx ⊢;split
   ·rw[if_pos (by assumption)]at hx
    exact Abw (x:=plA x (Kag x.2.1 m)) (l:=Obs _ _) hp (iF hl).1 hx
   ·rw[if_neg (by assumption)]at hx
    split
    ·exact sP hp _
    ·rw[if_neg (by assumption)]at hx
     exact Hby (x:=plA x (Kag x.2.1 m)) hp (iF hl).1 hx
 ·exact h
theorem Iat {st:Int}{seen:List bF}:∀ {m:Nat} {r:bF},m<=seen.length->Iau st seen m=some r->r∈seen
 |0,r,_,h=>by simp[Iau]at h
 | m + 1, r, hm, h => by
  rw[Ka6]at h;have gm:atI seen (m:Int)∈seen:=at_mem (by omega);unfold Gad at h
  cases hb:Iau st seen m with
  | none =>
   rw[hb]at h;simp only at h;split at h
   ·rw[<- Wbk h];exact gm
   ·cases h
  | some b =>
   rw[hb]at h;have ih:=Iat (m:=m) (by omega) hb;simp only at h;split at h
   ·rw[<- Wbk h];exact gm
   ·rw[<- Wbk h];exact ih
theorem Waq {n:Int}{seen:List bF}(hg:bR n=true)(h0:0<seen.length)(h:∀ r∈seen,rowOk n r=true):iZ (fF n seen).2.1=true/\bZ n (fF n seen).2.2=true:=by
 unfold fF
 cases e2:Iau 2 seen seen.length with
 | some r =>
  have:=Iat (Vb6 _) e2;exact⟨kP (h r this),pJ (h r this) hg⟩
 | none =>
  simp only;split
  ·have gm:atI seen 0∈seen:=at_mem (i:=0) h0
   exact⟨kP (h _ gm),pJ (h _ gm) hg⟩
  ·cases e1:Iau 1 seen seen.length with
   |some r=>exact⟨kP (h r (Iat (Vb6 _) e1)),Mag hg h _ (Vb6 _)⟩
   |none=>exact⟨show iZ ⟨0,0,0,0,0⟩=true by decide,Ba6 hg⟩
theorem Xaw {me:Int}{t:aM}{l:aN}(h:gP t.n me l=true)(hg:bR t.n=true)(hp:l.phase=3):0<l.seen.length/\l.seen.length<=5/\∀ r∈l.seen,rowOk t.n r=true:=by
 rw[yR]at h;obtain⟨a,b,c,d,e,f,g⟩:=h;have hn:=aL hg
 rcases g with g|g|g
 ·exact absurd (hp.symm.trans g.1) (by decide)
 ·exact absurd (hp.symm.trans g.1) (by decide)
 ·obtain⟨g1,g2,g3,g4,g5,g6,g7⟩:=g
  have h1:0<l.who.length:=by
   have:=oV.1 d;exact List.length_pos_of_mem this
  have h2:=Tas c h1;exact⟨by omega,by omega,fun r hr=>(g7 r hr).1⟩
theorem Ib3 (me:Int)(x:vD)(m:fC)(row:bF):(Qaz me x m row).1.n=x.1.n:=by
 have ha:∀ (t:aM) (l:aN),(Saq t l).n=t.n:=Abv;unfold Qaz;split
 ·unfold Dbg;split
  ·rfl
  ·split<;>rfl
 split
 ·unfold Ab6;split
  ·split
   ·rfl
   ·split
    ·exact ha _ _
    ·rfl
  ·rfl
 split
 ·unfold Lbk;split<;>rfl
 split
 ·unfold Ibt;split
  ·split<;>rfl
  ·rfl
 split
 ·rfl
 split
 ·unfold Kb0;split<;>rfl
 ·unfold Ab5;split
  ·split
   ·rfl
   ·unfold Lbh;split
    ·exact ha _ _
    ·split<;>rfl
  ·rfl
theorem Sa4 (r:pO)(m:fC)(hg:bR r.table.n=true):(Jab r m).2.1.length<=r.leads.length+2:=by
 have j0:∀ l ls,(Aam l ls).length<=ls.length+1:=mH;have hdr:∀ x ls,(lC x ls).length<=ls.length:=tJ;have hac:∀ me t ls l,(Sas me t ls l).length<=ls.length+1:=Nad;unfold Jab;split
 ·unfold Qaz
  split
  ·unfold Dbg;split
   ·simp only;omega
   ·split<;>(simp only[Taj,Vai];omega)
  split
  ·unfold Ab6;split
   ·have h1:=j0 (Fa6 r.leads m) r.leads
    split
    ·have:=hdr ((Fa6 r.leads m).rep,(Fa6 r.leads m).no) (Aam (Fa6 r.leads m) r.leads)
     simp only[Ua8,plA];omega
    ·split
     ·have:=hac r.me r.table (Aam (Fa6 r.leads m) r.leads) (Fa6 r.leads m)
      simp only[Qap,plA];omega
     ·simp only[plA];omega
   ·simp only;omega
  split
  ·unfold Lbk;split<;>(simp only[Taj,Vai];omega)
  split
  ·unfold Ibt;split
   ·have h1:=j0 (fU r.leads m) r.leads
    split
    ·have:=hdr ((fU r.leads m).rep,(fU r.leads m).no) (Aam (fU r.leads m) r.leads)
     simp only[Ua8,plA];omega
    ·simp only[plA];omega
   ·simp only;omega
  split
  ·have:=hdr (m.rep,m.no) r.leads
   simp only[Hbs];omega
  split
  ·unfold Kb0;split<;>(simp only[Taj,Vai];omega)
  ·unfold Ab5;split
   ·have h1:=j0 (Kag r.leads m) r.leads
    split
    ·simp only[plA];omega
    ·unfold Lbh
     split
     ·have:=hac r.me r.table (Aam (Kag r.leads m) r.leads) (Obs r.table.n (Kag r.leads m))
      simp only[Qap,plA];omega
     ·split
      ·have:=hdr ((Kag r.leads m).rep,(Kag r.leads m).no) (Aam (Kag r.leads m) r.leads)
       simp only[plA];omega
      ·have:=j0 (nG r.me (Kag r.leads m).rep (Kag r.leads m).no (Kag r.leads m).ballot (fF r.table.n (Kag r.leads m).seen).2.1 (Pbu r.table (Kag r.leads m))) (Aam (Kag r.leads m) r.leads)
       simp only[Hbz,plA];omega
   ·simp only;omega
 ·split
  ·simp only[Taj];omega
  ·simp only;omega
def Ibr (r:pO):Prop:=(0<=r.me/\r.me<=10)/\(0<=r.table.n/\r.table.n<=5)/\gF r.table.rows/\iB r.leads/\r.leads.length<=20
theorem Fbn {r:pO}(h:bV r=true)(hl:r.leads.length<=20):Ibr r:=by
 have hm:=gD h;have hg:=aL (aU (bJ h));obtain⟨h1,h2⟩:=kW h (by omega);exact⟨by omega,by omega,h1,h2,hl⟩
theorem Gby {n me:Int}(hg:bR n=true)(hm:inR me 0 (n-1)=true):bV ⟨me,⟨n,Wba n.toNat ([]:List bF)⟩,[]⟩=true:=by
 have hn:=aL hg;rw[kQ];refine⟨?_,hm,fun l hl=>absurd hl List.not_mem_nil,List.Pairwise.nil⟩;unfold dZ;have e:((Wba n.toNat ([]:List bF)).length:Int)=n:=by rw[List.length_replicate];omega
 rw[hg,e];simp
theorem Ja2 {r:pO}{c:kM}(h:(bE r c).2.2=true):bV (bE r c).1=true/\(bE r c).1.leads.length<=r.leads.length+2:=by
 unfold bE at h ⊢;split
 ·rename_i c0
  unfold sbB at c0;simp only[Vbk,decide_eq_true_eq]at c0;obtain⟨⟨⟨⟨c1,c2⟩,c3⟩,c4⟩,c5⟩:=c0;obtain⟨a1,a2,a3,a4⟩:=xR (c:=c) (rep:=r.me) (no:=zH r) (bJ c1);have a5:bZ r.table.n (sbA r c)=true:=by rw[<- decide_eq_true c5];exact a4
  have kd:=mH (nG r.me r.me (zH r) 0 c (sbA r c)) r.leads;exact⟨(Abn (ls:=r.leads) (me:=r.me) (ballot:=0) c1 (wF c1 c4).1 (by decide) a5 c2).1,by simp only;omega⟩
 ·rename_i c0
  rw[if_neg c0]at h;cases h
theorem Ga9 {r:pO}{rep no:Int}(h:(aZ r rep no).2.2=true):bV (aZ r rep no).1=true/\(aZ r rep no).1.leads.length<=r.leads.length+2:=by
 unfold aZ at h ⊢;split
 ·rename_i c0
  unfold Qal at c0;simp only[Vbk,Vb9,decide_eq_true_eq]at c0;obtain⟨⟨⟨c1,c2⟩,c3⟩,c4⟩:=c0;have kd:=mH (rU r.table.n r.me rep no (vS r rep no) (eF r.table rep no)) r.leads;exact⟨(Xa1 c1 c2 c3 c4).1,by simp only;omega⟩
 ·rename_i c0
  rw[if_neg c0]at h;cases h
theorem Cbw {r:pO}{m:fC}(h:(vR r m).2.2=true):bV (vR r m).1=true/\(vR r m).1.leads.length<=r.leads.length+2:=by
 unfold vR at h ⊢;split
 ·rename_i c0
  rw[if_pos c0]at h;split
  ·rename_i c1
   unfold Fb6 at c0;simp only[Vbk]at c0 c1;exact⟨c1.2,Sa4 r m (aU (bJ c0.1.1))⟩
  ·rename_i c1
   rw[if_neg c1]at h;cases h
 ·rename_i c0
  rw[if_neg c0]at h;cases h
def Hbd (s r:bF):Prop:=r.ballot<=s.ballot/\(r.state=3->s=r)/\(r.state≠0->s.state≠0)/\r.vote<=s.vote
def Hbc (a b:List (List bF)):Prop:=∀ k i:Nat,k<a.length->i<(atI a (k:Int)).length->k<b.length/\i<(atI b (k:Int)).length/\Hbd (atI (atI b (k:Int)) (i:Int)) (atI (atI a (k:Int)) (i:Int))
theorem Va8 (r:bF):Hbd r r:=⟨Int.le_refl _,fun _=>rfl,fun h=>h,Int.le_refl _⟩
open Go
theorem Fbd {xs:List Int}(h:0<xs.length):aT.ne.run [rL xs]=some []:=by
 cases xs with
 |nil=>simp at h
 |cons x xs=>rfl
theorem Qag {n me:Int}{m:fC}(h0:0<=me):∀ k:Nat,((vU n me m k).length:Int)=if me<k then (k:Int)-1 else k
 |0=>by rw[if_neg (by omega)];simp[vU]
 | k + 1 => by
  have ih:=Qag (n:=n) (m:=m) h0 k;rw[xU,Vbw];by_cases hk:(k:Int)=me
  ·have e:((k:Int)==me)=true:=by simpa using hk
   rw[if_neg (by omega)]at ih;rw[if_pos e,if_pos (by omega),List.length_nil];omega
  ·have e:¬ ((k:Int)==me)=true:=by simpa using hk
   rw[if_neg e,List.length_singleton];by_cases h1:me<(k:Int)
   ·rw[if_pos h1]at ih
    rw[if_pos (by omega)];omega
   ·rw[if_neg h1]at ih
    rw[if_neg (by omega)];omega
theorem Fbv {n me:Int}{m:fC}(h0:0<=me)(h1:me<=n-1):((vU n me m n.toNat).length:Int)=n-1:=by
 rw[Qag h0,if_pos (by omega)];omega
theorem Va7 {t:aM}{rep no:Int}{r:bF}(h:dZ t=true)(hi:inst t.n rep no=true)(hr:Hbd r (eF t rep no)):Hbc t.rows (nY t rep no r).rows:=by
 obtain⟨r1,r2,r3,r4⟩:=gY hi;have hb:=dQ h hi;have hl:=Ha9 (n:=t.n) (l:=atI t.rows rep) (no:=no) (by omega);have hlen:=bX h;intro k i hk qn;have hk6:=(cB h (at_mem hk)).1;have gm:inst t.n (k:Int) ((i:Int)+1)=true:=by simp[inst,inR];omega
 have e0:=Aa7 (r:=r) h hi gm
 have e1:eF t (k:Int) ((i:Int)+1)=atI (atI t.rows (k:Int)) (i:Int):=by
  unfold eF;rw[if_pos (by omega)];congr 1;omega
 have hlk:i<(atI (nY t rep no r).rows (k:Int)).length:=by
  simp only[nY];by_cases p0:(k:Int)=rep
  ·subst p0
   have e:atI (jF t.rows (k:Int) (jF (ext t.n (atI t.rows (k:Int)) no) (no-1) r)) (k:Int)=jF (ext t.n (atI t.rows (k:Int)) no) (no-1) r:=zN.1 hb;rw[e,nJ];omega
  ·have e:atI (jF t.rows rep (jF (ext t.n (atI t.rows rep) no) (no-1) r)) (k:Int)=atI t.rows (k:Int):=Abs (by omega) (by omega) (fun e=>p0 e.symm)
   rw[e];exact qn
 have e2:eF (nY t rep no r) (k:Int) ((i:Int)+1)=atI (atI (nY t rep no r).rows (k:Int)) (i:Int):=by
  unfold eF;rw[if_pos (by omega)];congr 1;omega
 refine⟨by simp only[nY,nJ];exact hk,hlk,?_⟩;rw[<- e1,<- e2,e0];split
 ·rename_i hc
  rw[hc.1,hc.2];exact hr
 ·exact Va8 _
theorem Ga6 {t:aM}{rep no:Int}(h:dZ t=true)(hi:inst t.n rep no=true):mV t rep no=(eF t rep no,true):=by
 unfold mV;rw[h,hi];rfl
theorem Ia1 {a:Ibb}(h:Abu a):gF a.1.table.rows/\iB a.1.leads/\a.2.1.length<=10000000000/\∀ m∈a.2.1,m.attr.deps.length<=10000000000:=by
 obtain⟨h1,h2,h3,h4⟩:=h;refine⟨?_,?_,by omega,fun m hm=>by have:=h4 m hm;omega⟩
 ·rcases h1 with h1|h1
  ·exact (kW h1 (by omega)).1
  ·rw[h1];exact⟨by simp[Fbb],by simp[Fbb]⟩
 ·rcases h1 with h1|h1
  ·exact (kW h1 (by omega)).2
  ·rw[h1];exact⟨by simp[Fbb],by simp[Fbb]⟩
theorem Qa4 {r:pO}{c:kM}(h:(bE r c).2.2=true) :
  bV r=true/\((atI r.table.rows r.me).length:Int)<6/\(bE r c).1.table.n=r.table.n/\(bE r c).1.me=r.me /\
  (∃ a,mV (bE r c).1.table r.me (zH r)=(kG 0 c a,true)) /\
  ((bE r c).2.1.length:Int)=r.table.n-1/\Hbc r.table.rows (bE r c).1.table.rows:=by
 have ka:=(Ja2 h).1;unfold bE at h ka ⊢;split
 ·rename_i c0
  rw[if_pos c0]at ka;unfold sbB at c0;simp only[Vbk,decide_eq_true_eq]at c0;obtain⟨⟨⟨⟨c1,c2⟩,c3⟩,c4⟩,c5⟩:=c0;have ht:=bJ c1;have hm:=gD c1;obtain⟨s1,s2⟩:=wF c1 c4;have ht2:=bJ ka;refine⟨c1,c4,rfl,rfl,⟨sbA r c,?_⟩,?_,?_⟩
  ·rw[Ga6 ht2 s1]
   simp only;rw[Aa7 ht s1 s1,if_pos ⟨rfl,rfl⟩]
  ·exact Fbv hm.1 hm.2
  ·refine Va7 ht s1 ?_
   have e:eF r.table r.me (zH r)=row0 r.table.n:=by
    unfold eF zH;rw[if_neg (by omega)]
   rw[e];exact⟨by simp[row0,kG],by simp[row0],by simp[row0],by simp[row0,kG]⟩
 ·rename_i c0
  rw[if_neg c0]at h;cases h
theorem Oak {r:pO}{rep no:Int}(h:(aZ r rep no).2.2=true) :
  (aZ r rep no).1.table.n=r.table.n/\(aZ r rep no).1.me=r.me/\mV r.table rep no=(eF r.table rep no,true) /\
  mV (aZ r rep no).1.table rep no=(sQ (vS r rep no) (eF r.table rep no),true) /\
  ((aZ r rep no).2.1.length:Int)=r.table.n-1/\(eF r.table rep no).ballot<vS r rep no/\vS r rep no % 8=r.me/\0<=vS r rep no:=by
 have ka:=(Ga9 h).1;unfold aZ at h ka ⊢;split
 ·rename_i c0
  rw[if_pos c0]at ka;unfold Qal at c0;simp only[Vbk,Vb9,decide_eq_true_eq]at c0;obtain⟨⟨⟨c1,c2⟩,c3⟩,c4⟩:=c0;have ht:=bJ c1;have hm:=gD c1;have hn:=aL (aU ht);have ht2:=bJ ka;have hb:=nP (tT ht c2);have hp:=Ta1 (b:=(eF r.table rep no).ballot) (me:=r.me) hb.1 hm.1 (by omega);refine⟨rfl,rfl,Ga6 ht c2,?_,Fbv hm.1 hm.2,hp.1,hp.2.1,by have:=hp.2.2;unfold vS;omega⟩;rw[Ga6 ht2 c2];simp only;rw[Aa7 ht c2 c2,if_pos ⟨rfl,rfl⟩]
 ·rename_i c0
  rw[if_neg c0]at h;cases h
end Go.Proofs.YtgpamlpecmldfaaGreat.Rf
