/- Terms for the program's functions, and that they are right: part 9 of 9. -/
import Derived.Test.YtdpfilpckndhcaaGreatDoorRf8
import Derived.Lib.ItoaNum
open Bool renaming and_eq_true → Qbq, false_eq_true → Qbr, not_eq_true' → Rbe, or_eq_true → Rbw, not_eq_false' → Sbc, and_true → Sbh, true_or → Sbw, or_true → Sb3, not_eq_true → Tb1, not_eq_false → Tb7
open Int renaming toNat_natCast → Rbd
open List renaming length_append → Qbs, length_cons → Qbt, length_nil → Qbu, mem_append_left → Qbv, take_of_length_le → Qbx, mem_append_right → Qby, replicate → Qb0, append_assoc → Qb1, mem_cons_of_mem → Qb2, getD_eq_getElem?_getD → Qb5, mem_singleton → Qb6, mem_cons_self → Qb7, length_take → Qb9, length_map → Rbf, all_eq_true → Rbg, map_cons → Rbh, mem_cons → Rbk, length_drop → Rbn, length_replicate → Rbo, not_mem_nil → Rbs, cons_append → Sbk, mem_of_mem_drop → Sbo, mem_append → Sbt, take_append_drop → Sbu, take_length → Sbx, foldl_cons → Sby, drop_eq_getElem_cons → Sbz, map_congr_left → Sb7, drop_zero → Sb9, getElem_mem → Tbc, all_cons → Tbf, pairwise_cons → Tbo, flatMap_cons → Tbq, any_eq_true → Tbz, replicate_succ → Uba, range → Ubc, mem_range → Ubd, take_zero → Ube, all_nil → Ubg
open Nat renaming le_refl → Qbw, lt_or_ge → Rbj, le_trans → Sbn, zero_le → Sb5, strongRecOn → Tbd, lt_trichotomy → Tbn
set_option linter.unusedSimpArgs false
set_option linter.unusedVariables false
set_option linter.unnecessarySimpa false
set_option linter.unusedSectionVars false
namespace Go.Proofs.YtdpfilpckndhcaaGreatDoor.Rf
set_option linter.unusedVariables false
set_option linter.unusedSimpArgs false
theorem Sa6 {s:List UInt8}{m:Int}(h:0<=bP s m)(hm:m<=6):bP s 6=bP s m:=by
 obtain⟨h1,h2,h3,h4⟩:=Ia4 h
 rw[h4,Sa7 h1 (by omega) h3]
theorem Lbv {a b:Nat}(h:a<=b):(10:Int) ^ a<=10 ^ b:=by exact_mod_cast Nat.pow_le_pow_right (by decide) h
theorem Ua5 {s:List UInt8}{m:Nat}(h:0<=bP s 6)(h2:bP s 6<10 ^ m)(hm:1<=m):bP s m=bP s 6:=by
 obtain⟨h3,h4,h5,h6⟩:=Ia4 h
 rw[h6]at h2
 rw[h6,Sa7 h3 ?_ h5]
 rcases Bby h3 h5 with h7|h7
 ·rcases Rbj m s.length with h8|h8
  ·have h9:=Lbv (show m<=s.length-1 by omega)
   omega
  ·omega
 ·omega
def numsOf (most:Int)(ws:List (List UInt8)):List Int:=ws.map fun w=>bP w most
def aT (most:Int)(ws:List (List UInt8)):Bool:=ws.all fun w=>decide (0<=bP w most)
def Bbu (most:Int)(ws:List (List UInt8)):List Int×Bool:=if aT most ws then (numsOf most ws,true) else ([],false)
theorem bR {most:Int}{ws:List (List UInt8)}:(numsOf most ws).length=ws.length:=by simp[numsOf]
theorem Aa3 {most:Int}{ws:List (List UInt8)}(h:aT most ws=true){w:List UInt8}(hw:w∈ws):0<=bP w most:=by
 simp only[aT,Rbg,decide_eq_true_eq]at h
 exact h w hw
theorem lI {most:Int}{ws:List (List UInt8)}(h:aT most ws=true)(hm:most<=6):numsOf 6 ws=numsOf most ws:=by
 unfold numsOf
 exact Sb7 fun w hw=>Sa6 (Aa3 h hw) hm
theorem Ka3 {m:Nat}{ws:List (List UInt8)}(h:∀ x∈numsOf 6 ws,0<=x/\x<10 ^ m)(hm:1<=m):numsOf m ws=numsOf 6 ws/\aT m ws=true:=by
 have h2:∀ w∈ws,bP w m=bP w 6/\0<=bP w 6:=by
  intro w hw
  have h3:=h (bP w 6) (List.mem_map.2 ⟨w,hw,rfl⟩)
  exact⟨Ua5 h3.1 h3.2 hm,h3.1⟩
 refine⟨Sb7 fun w hw=>(h2 w hw).1,?_⟩
 simp only[aT,Rbg,decide_eq_true_eq]
 intro w hw
 rw[(h2 w hw).1]
 exact (h2 w hw).2
def aX (n:Int):List UInt8:=Jax n.toNat
theorem Dac {most:Int}{ws:List (List UInt8)}(h:aT most ws=true):(numsOf most ws).map aX=ws:=by
 unfold numsOf
 rw[List.map_map]
 conv=>rhs;rw[<- List.map_id ws]
 exact Sb7 fun w hw=>Ua4 (Aa3 h hw)
theorem Nab:∀ n:Nat,(Jax n).length<=n+1:=by
 intro n
 induction n using Tbd with
 | _ n ih =>
  rcases Rbj n 10 with h|h
  ·rw[rU h];simp
  ·rw[wQ h,Qbs]
   have:=ih (n / 10) (by omega)
   simp only[Qbt,Qbu]
   omega
def pW (w:List UInt8):Int:=if w==[45] then 0 else if w==[109,111,118,101] then 1 else if w==[114,101,97,100] then 2 else -1
def Vag (k:Int):Int:=if k==0 then 1 else if k==1 then 5 else 3
def Qa4 (k:Int)(ns:List Int):nS:=if k==1 then ⟨1,atI ns 0,atI ns 1,atI ns 2,atI ns 3⟩ else if k==2 then ⟨2,atI ns 0,atI ns 1,0,0⟩ else ⟨0,0,0,0,0⟩
def Waz (ws:List (List UInt8)):nS×Bool :=
 if decide (pW (atI ws 0)<0)||!((ws.length:Int)==Vag (pW (atI ws 0)))||!aT 4 (ws.drop 1)||!dC (Qa4 (pW (atI ws 0)) (numsOf 4 (ws.drop 1))) then (⟨0,0,0,0,0⟩,false)
 else (Qa4 (pW (atI ws 0)) (numsOf 4 (ws.drop 1)),true)
def nQ (s:List UInt8):nS×Bool:=Waz (splitB 32 s)
def pG (c:nS):List UInt8 :=
 if c.kind==1 then [109,111,118,101,32]++aX c.id++[32]++aX c.src++[32]++aX c.dst++[32]++aX c.amt
 else if c.kind==2 then [114,101,97,100,32]++aX c.id++[32]++aX c.src else [45]
theorem Iai {w:List UInt8}(h:pW w=1):w=[109,111,118,101]:=by
 unfold pW at h
 split at h
 ·cases h
 ·split at h
  ·rename_i h2;simpa using h2
  ·split at h<;>cases h
theorem zH {w:List UInt8}(h:pW w=2):w=[114,101,97,100]:=by
 unfold pW at h
 split at h
 ·cases h
 ·split at h
  ·cases h
  ·split at h
   ·rename_i h2;simpa using h2
   ·cases h
theorem rX {w:List UInt8}(h:pW w=0):w=[45]:=by
 unfold pW at h
 split at h
 ·rename_i h2;simpa using h2
 ·split at h
  ·cases h
  ·split at h<;>cases h
theorem rY (w:List UInt8):pW w=0\/pW w=1\/pW w=2\/pW w=-1:=by
 unfold pW
 split
 ·exact .inl rfl
 ·split
  ·exact .inr (.inl rfl)
  ·split
   ·exact .inr (.inr (.inl rfl))
   ·exact .inr (.inr (.inr rfl))
theorem Ob4 {α:Type}{l:List α}(h:l.length=1):∃ a,l=[a]:=by
 match l,h with
 |[a],_=>exact⟨a,rfl⟩
theorem zD {α:Type}{l:List α}(h:l.length=2):∃ a b,l=[a,b]:=by
 match l,h with
 |[a,b],_=>exact⟨a,b,rfl⟩
theorem Lb2 {α:Type}{l:List α}(h:l.length=3):∃ a b c,l=[a,b,c]:=by
 match l,h with
 |[a,b,c],_=>exact⟨a,b,c,rfl⟩
theorem Gb9 {α:Type}{l:List α}(h:l.length=5):∃ a b c d e,l=[a,b,c,d,e]:=by
 match l,h with
 |[a,b,c,d,e],_=>exact⟨a,b,c,d,e,rfl⟩
theorem Hb7 {s:List UInt8}(h:(nQ s).2=true):dC (nQ s).1=true/\pG (nQ s).1=s:=by
 have hj:=oH 32 s
 unfold nQ at h ⊢
 generalize splitB 32 s=ws at h hj ⊢
 unfold Waz at h ⊢
 split at h
 ·cases h
 rename_i hc
 rw[if_neg hc]
 simp only[Rbw,not_or,Rbe,Sbc,Tb1,decide_eq_false_iff_not,beq_iff_eq,Tb7]at hc
 obtain⟨⟨⟨h1,h2⟩,h3⟩,h4⟩:=hc
 refine⟨h4,?_⟩
 simp only
 rcases rY (atI ws 0) with e|e|e|e
 ·have hw:=rX e
  rw[e]at h2
  have hl:ws.length=1:=by have:Vag 0=1:=rfl;omega
  obtain⟨a,rfl⟩:=Ob4 hl
  rw[e]
  rw[<- hj]
  show pG ⟨0,0,0,0,0⟩=a
  rw[show a=[45] from hw]
  rfl
 ·have hw:=Iai e
  rw[e]at h2
  have hl:ws.length=5:=by have:Vag 1=5:=rfl;omega
  obtain⟨w,a,b,c,d,rfl⟩:=Gb9 hl
  rw[e]
  have hn:=Dac h3
  rw[<- hj]
  show [109,111,118,101,32]++aX (bP a 4)++[32]++aX (bP b 4)++[32]++aX (bP c 4)++[32]++aX (bP d 4)=bH 32 [w,a,b,c,d]
  have e5:aX (bP a 4)=a/\aX (bP b 4)=b/\aX (bP c 4)=c/\aX (bP d 4)=d:=by simpa[numsOf] using hn
  rw[e5.1,e5.2.1,e5.2.2.1,e5.2.2.2,show w=[109,111,118,101] from hw]
  simp[bH]
 ·have hw:=zH e
  rw[e]at h2
  have hl:ws.length=3:=by have:Vag 2=3:=rfl;omega
  obtain⟨w,a,b,rfl⟩:=Lb2 hl
  rw[e]
  have hn:=Dac h3
  rw[<- hj]
  show [114,101,97,100,32]++aX (bP a 4)++[32]++aX (bP b 4)=bH 32 [w,a,b]
  have e5:aX (bP a 4)=a/\aX (bP b 4)=b:=by simpa[numsOf] using hn
  rw[e5.1,e5.2,show w=[114,101,97,100] from hw]
  simp[bH]
 ·rw[e]at h1
  exact absurd (by decide) h1
theorem Uao {w:List UInt8}:ixF (fun x=>w==x) [[45],[109,111,118,101],[114,101,97,100]]=pW w:=by
 unfold pW ixF
 cases h1:w==[45]<;>cases h2:w==[109,111,118,101]<;>cases h3:w==[114,101,97,100]<;>simp[List.findIdx?_cons,h1,h2,h3]
theorem dA {ws:List (List UInt8)}(h:pW (atI ws 0)<0\/(ws.length:Int)≠Vag (pW (atI ws 0))\/aT 4 (ws.drop 1)=false\/dC (Qa4 (pW (atI ws 0)) (numsOf 4 (ws.drop 1)))=false):Waz ws=(⟨0,0,0,0,0⟩,false):=by
 unfold Waz
 rw[if_pos]
 rcases h with h|h|h|h
 ·simp[-List.drop_one,h]
 ·simp[-List.drop_one,h]
 ·simp[-List.drop_one,h]
 ·simp[-List.drop_one,h]
theorem iL {ws:List (List UInt8)}{k:Int}(hk:pW (atI ws 0)=k)(h0:0<=k)(h1:(ws.length:Int)=Vag k)(h2:aT 4 (ws.drop 1)=true)(h3:dC (Qa4 k (numsOf 4 (ws.drop 1)))=true):Waz ws=(Qa4 k (numsOf 4 (ws.drop 1)),true):=by
 unfold Waz
 rw[hk,if_neg]
 simp[-List.drop_one,h1,h2,h3,h0]
theorem uM {m:Int}{ws:List (List UInt8)}(h:aT m ws=false):Bbu m ws=([],false):=by unfold Bbu;rw[h];rfl
theorem lS {m:Int}{ws:List (List UInt8)}(h:aT m ws=true):Bbu m ws=(numsOf m ws,true):=by unfold Bbu;rw[h];rfl
theorem dH {m:Int}{ws:List (List UInt8)}{i:Nat}(h:i<ws.length):aT m (ws.take (i+1))=(aT m (ws.take i)&&decide (0<=bP (atI ws (i:Int)) m)):=by
 rw[<- take_at h]
 simp[aT]
theorem lW {m:Int}{ws:List (List UInt8)}{i:Nat}(h:i<ws.length):numsOf m (ws.take (i+1))=numsOf m (ws.take i)++[bP (atI ws (i:Int)) m]:=by
 rw[<- take_at h]
 simp[numsOf]
theorem bE {m:Int}{ws:List (List UInt8)}{i:Nat}(h:i<ws.length)(h2:bP (atI ws (i:Int)) m<0):aT m ws=false:=by
 cases ha:aT m ws
 ·rfl
 ·have:=Aa3 ha (at_mem h)
  omega
def bK (ws:List (List UInt8))(i:Nat):List Int:=numsOf 6 (ws.take i)++Qb0 (4-i) 0
theorem bM {ws:List (List UInt8)}{i:Nat}(h:i<=ws.length)(h4:i<=4):(bK ws i).length=4:=by
 simp only[bK,Qbs,bR,Qb9,Rbo]
 omega
theorem gF {ws:List (List UInt8)}{i:Nat}(h:i<ws.length)(h4:ws.length<=4):cZ (bK ws i) (i:Int) (bP (atI ws (i:Int)) 6)=bK ws (i+1):=by
 have hl:(numsOf 6 (ws.take i)).length=i:=by rw[bR,Qb9];omega
 have e:Qb0 (4-i) (0:Int)=0::Qb0 (4-(i+1)) 0:=by
  rw[show 4-i=(4-(i+1))+1 by omega];rfl
 unfold bK cZ
 rw[lW h,e,Rbd,List.set_append_right _ _ (by omega),hl,Nat.sub_self,List.set_cons_zero,Qb1]
 rfl
theorem gG {s:List UInt8}(h:4<(s.length:Int)):bP s 4<0:=by
 rcases (show bP s 4<0\/0<=bP s 4 by omega) with h2|h2
 ·exact h2
 ·have:=(Ia4 h2).2.1
  omega
theorem eO {s:List UInt8}(h:(s.length:Int)<=4):bP s 4=bP s 6:=by
 unfold bP
 rw[decide_eq_true h,decide_eq_true (show (s.length:Int)<=6 by omega)]
theorem Da1 {α:Type}{ws:List α}:(ws.drop 1).length=ws.length-1:=by simp
theorem Gax {ws:List (List UInt8)}(h:1<=ws.length):(aO.sub 1 true).run [rL ws,i64 1,i64 ws.length]=some [rL (ws.drop 1)]:=by
 have:=Ja6.2.2.1 (xs:=ws) (lo:=1) (hi:=(ws.length:Int)) (by omega) (by omega) (by omega)
 rw[this,Rbd,Qbx (Qbw _)]
 rfl
theorem Pa3 {w:List UInt8}(h:pW w=-1):(w==[45])=false/\(w==[109,111,118,101])=false/\(w==[114,101,97,100])=false:=by
 unfold pW at h
 split at h
 ·cases h
 ·split at h
  ·cases h
  ·split at h
   ·cases h
   ·rename_i h1 h2 h3
    exact⟨by simpa using h1,by simpa using h2,by simpa using h3⟩
theorem Jaa {i f t a:Int}:decide (0<nP ⟨1,i,f,t,a⟩)=!dC ⟨1,i,f,t,a⟩:=by
 unfold nP dC
 cases inR f 0 3<;>cases inR i 1 999<;>cases inR t 0 3<;>cases f==t<;>cases inR a 1 1000<;>rfl
theorem Ia9 {i f:Int}:decide (0<nP ⟨2,i,f,0,0⟩)=!dC ⟨2,i,f,0,0⟩:=by
 unfold nP dC
 cases inR f 0 3<;>cases inR i 1 999<;>rfl
theorem bC {n:Int}(h:n<=9999):(aX n).length<=10000:=by
 have:=Nab n.toNat
 unfold aX
 omega
theorem nO {c:nS}(h:dC c=true):(0<=c.id/\c.id<=9999)/\(0<=c.src/\c.src<=9999)/\(0<=c.dst/\c.dst<=9999)/\0<=c.amt/\c.amt<=9999:=by
 unfold dC at h
 split at h
 ·rw[of_decide_eq_true h];decide
 ·split at h
  ·simp only[inR,Qbq,decide_eq_true_eq]at h;omega
  ·simp only[inR,Qbq,decide_eq_true_eq,beq_iff_eq]at h;omega
theorem vQ {c:nS}(h:dC c=true):c.kind=0\/c.kind=1\/c.kind=2:=by
 unfold dC at h
 split at h
 ·rename_i h1;exact .inl (by simpa using h1)
 ·split at h
  ·rename_i h1;exact .inr (.inl (by simpa using h1))
  ·simp only[Qbq,beq_iff_eq]at h;exact .inr (.inr h.1.1.1.1)
theorem Ea9 {b:UInt8}:∀ {ws:List (List UInt8)} {w:List UInt8},ws≠[]->bH b (ws++[w])=bH b ws++[b]++w
 |[],_,h=>absurd rfl h
 |[v],w,_=>by simp[bH]
 | v :: u :: ws, w, _ => by
  have ih:=Ea9 (b:=b) (ws:=u::ws) (w:=w) (by simp)
  simp only[Sbk]at ih ⊢
  simp only[bH,ih]
  simp
theorem lK {b:UInt8}:∀ {ws:List (List UInt8)},(∀ w∈ws,w.length<=10000)->(bH b ws).length<=10001*ws.length
 |[],_=>by simp[bH]
 | [v], h => by
  have:=h v (by simp)
  simp only[bH,Qbt,Qbu]
  omega
 | v :: u :: ws, h => by
  have ih:=lK (b:=b) (ws:=u::ws) (fun w hw=>h w (Qb2 _ hw))
  have:=h v (by simp)
  simp only[bH,Qbs,Qbt]at ih ⊢
  omega
theorem Za5 {b:UInt8}:∀ {p:List UInt8} (t:List UInt8),b∉p->Lib.indexByte (p++b::t) b=p.length
 | [], t, _ => by
  show Lib.indexByte (b::t) b=0
  unfold Lib.indexByte
  simp
 | c :: p, t, h => by
  simp only[Rbk,not_or]at h
  have hc:(c==b)=false:=by
   cases hcb:c==b
   ·rfl
   ·exact absurd (by simpa using hcb) (fun e:c=b=>h.1 e.symm)
  show Lib.indexByte (c::(p++b::t)) b=_
  unfold Lib.indexByte
  rw[hc,Za5 t h.2]
  have:((p.length:Int)==-1)=false:=by simp
  rw[this]
  simp
theorem Ea5 {b c:UInt8}(hcb:c≠b):∀ {s:List UInt8},c∈s->∃ w∈splitB b s,c∈w
 |[],h=>by cases h
 | d :: r, h => by
  simp only[splitB]
  by_cases hd:d=b
  ·rw[if_pos hd]
   rcases List.mem_cons.1 h with e|e
   ·exact absurd (e.trans hd) hcb
   ·obtain⟨w,h1,h2⟩:=Ea5 hcb e
    exact⟨w,Qb2 _ h1,h2⟩
  ·rw[if_neg hd]
   cases hs:splitB b r with
   |nil=>exact absurd hs (mY b r)
   | cons v vs =>
    rcases List.mem_cons.1 h with e|e
    ·exact⟨d::v,Qb7,by rw[e];exact Qb7⟩
    ·obtain⟨w,h1,h2⟩:=Ea5 hcb e
     rw[hs]at h1
     rcases List.mem_cons.1 h1 with rfl|h1
     ·exact⟨d::w,Qb7,Qb2 _ h2⟩
     ·exact⟨w,Qb2 _ h1,h2⟩
theorem Wa4 {b c:UInt8}{m:Int}{s:List UInt8}(hcb:c≠b)(hc:cB c=false)(h:c∈s):aT m (splitB b s)=false:=by
 cases ha:aT m (splitB b s)
 ·rfl
 ·obtain⟨w,h1,h2⟩:=Ea5 hcb h
  have h3:=(Ia4 (Aa3 ha h1)).1
  rw[Rbg]at h3
  rw[h3 c h2]at hc
  cases hc
def Da9 (n:Int)(s:List UInt8)(ps:List (List UInt8)):gT×Bool :=
 if decide (40<(s.length:Int))||!((ps.length:Int)==2)||!(bD n&&fC n ⟨bP (atI ps 0) 6,numsOf 6 (splitB 44 (atI ps 1))⟩) then (⟨0,[]⟩,false)
 else (⟨bP (atI ps 0) 6,numsOf 6 (splitB 44 (atI ps 1))⟩,true)
def fH (n:Int)(s:List UInt8):gT×Bool:=Da9 n s (splitB 58 s)
def gL (a:gT):List UInt8:=aX a.seq++58::bH 44 (a.deps.map aX)
theorem gP {n:Int}{a:gT}(h:fC n a=true):0<=a.seq/\a.seq<=999/\(a.deps.length:Int)=n/\∀ x∈a.deps,0<=x/\x<=6:=by
 simp only[fC,inR,Qbq,decide_eq_true_eq,beq_iff_eq,Rbg]at h
 exact⟨h.1.1.1,h.1.1.2,h.1.2,fun x hx=>h.2 x hx⟩
theorem Vaa {n:Int}{s:List UInt8}(h:(fH n s).2=true):bD n=true/\fC n (fH n s).1=true/\gL (fH n s).1=s:=by
 have hj:=oH 58 s
 unfold fH at h ⊢
 generalize splitB 58 s=ps at h hj ⊢
 unfold Da9 at h ⊢
 split at h
 ·cases h
 rename_i hc
 rw[if_neg hc]
 simp only[Rbw,not_or,Rbe,Sbc,Tb1,decide_eq_false_iff_not,beq_iff_eq,Tb7,Qbq]at hc
 obtain⟨⟨h1,h2⟩,h3,h4⟩:=hc
 refine⟨h3,h4,?_⟩
 obtain⟨p,t,rfl⟩:=zD (l:=ps) (by omega)
 obtain⟨r1,r2,r3,r4⟩:=gP h4
 have a6:aT 6 (splitB 44 t)=true:=by
  simp only[aT,Rbg,decide_eq_true_eq]
  intro w hw
  exact (r4 (bP w 6) (List.mem_map.2 ⟨w,hw,rfl⟩)).1
 rw[<- hj]
 show aX (bP p 6)++58::bH 44 ((numsOf 6 (splitB 44 t)).map aX)=bH 58 [p,t]
 have e1:aX (bP p 6)=p:=Ua4 r1
 rw[Dac a6,e1,oH]
 rfl
theorem Rad {n:Int}{s p t:List UInt8}(hs:s=p++58::t)(hp:(58:UInt8)∉p) :
  fH n s=if !aT 1 (splitB 44 t)||decide (40<(s.length:Int))||!(bD n&&fC n ⟨bP p 3,numsOf 1 (splitB 44 t)⟩) then (⟨0,[]⟩,false) else (⟨bP p 3,numsOf 1 (splitB 44 t)⟩,true):=by
 have hb:fH n s=Da9 n s (p::splitB 58 t):=by
  unfold fH
  congr 1
  rw[hs,mG _ hp]
 rw[hb]
 unfold Da9
 by_cases ht:(58:UInt8)∈t
 ·have h1:=Wa4 (b:=44) (m:=1) (by decide) (by decide) ht
  have h2:((((p::splitB 58 t).length:Nat):Int)==2)=false:=by
   have:=gZ 58 t
   have h3:0<t.count 58:=List.count_pos_iff.2 ht
   simp only[Qbt,this,beq_eq_false_iff_ne]
   omega
  rw[h1,h2]
  simp
 ·rw[mX ht]
  have e0:atI [p,t] 0=p:=rfl
  have e1:atI [p,t] 1=t:=rfl
  have e2:((([p,t]:List (List UInt8)).length:Int)==2)=true:=rfl
  rw[e0,e1,e2]
  by_cases hg:bD n=true
  rotate_left
  ·have hg2:bD n=false:=by simpa using hg
   rw[hg2];simp
  rw[hg]
  by_cases hA:fC n ⟨bP p 6,numsOf 6 (splitB 44 t)⟩=true
  ·obtain⟨r1,r2,r3,r4⟩:=gP hA
   have d3:bP p 3=bP p 6:=Ua5 (m:=3) r1 (by simp only at r2;omega) (by decide)
   obtain⟨d1,d2⟩:=Ka3 (m:=1) (ws:=splitB 44 t) (fun x hx=>⟨(r4 x hx).1,by have:=(r4 x hx).2;omega⟩) (by decide)
   have d1':numsOf 1 (splitB 44 t)=numsOf 6 (splitB 44 t):=d1
   have d2':aT 1 (splitB 44 t)=true:=d2
   rw[d3,d1',d2',hA]
   simp
  ·have hA2:fC n ⟨bP p 6,numsOf 6 (splitB 44 t)⟩=false:=by simpa using hA
   rw[hA2]
   have hB:(!aT 1 (splitB 44 t)||decide (40<(s.length:Int))||!(true&&fC n ⟨bP p 3,numsOf 1 (splitB 44 t)⟩))=true:=by
    cases ha:aT 1 (splitB 44 t)
    ·rfl
    ·cases hb:fC n ⟨bP p 3,numsOf 1 (splitB 44 t)⟩
     ·simp
     ·exfalso
      obtain⟨r1,r2,r3,r4⟩:=gP hb
      have d3:=Sa6 (m:=3) r1 (by decide)
      have d1:=lI ha (by decide)
      rw[d3,d1,hb]at hA2
      cases hA2
   rw[hB]
   simp
theorem Lam {n:Int}{s:List UInt8}(h:(58:UInt8)∉s):fH n s=(⟨0,[]⟩,false):=by
 unfold fH Da9
 rw[mX h]
 have e2:((([s]:List (List UInt8)).length:Int)==2)=false:=rfl
 rw[e2]
 simp
def Eah (ns:List Int)(c:nS)(a:gT):bL:=⟨atI ns 2,atI ns 3,atI ns 4,c,a⟩
def vE (n:Int)(ps:List (List UInt8)):Int×Int×bL×Bool :=
 if !((ps.length:Int)==3)||!((splitB 32 (atI ps 0)).length==5)||!(nQ (atI ps 1)).2||!(fH n (atI ps 2)).2||!(bD n&&inst n (atI (numsOf 6 (splitB 32 (atI ps 0))) 0) (atI (numsOf 6 (splitB 32 (atI ps 0))) 1)) ||
  !rowOk n (Eah (numsOf 6 (splitB 32 (atI ps 0))) (nQ (atI ps 1)).1 (fH n (atI ps 2)).1) then (0,0,Gb2,false)
 else (atI (numsOf 6 (splitB 32 (atI ps 0))) 0,atI (numsOf 6 (splitB 32 (atI ps 0))) 1,Eah (numsOf 6 (splitB 32 (atI ps 0))) (nQ (atI ps 1)).1 (fH n (atI ps 2)).1,true)
def aN (n:Int)(s:List UInt8):Int×Int×bL×Bool:=vE n (splitB 124 s)
def gN (rep no:Int)(r:bL):List UInt8 :=
 aX rep++32::aX no++32::aX r.ballot++32::aX r.vote++32::aX r.state++124::pG r.cmd++124::gL r.attr
theorem lH {n:Int}{r:bL}(h:rowOk n r=true):(0<=r.ballot/\r.ballot<=9999)/\(0<=r.vote/\r.vote<=9999)/\0<=r.state/\r.state<=3:=by
 simp only[rowOk,inR,Qbq,decide_eq_true_eq]at h
 omega
theorem Lbx {n:Int}{ws:List (List UInt8)}{c:nS}{a:gT}(hl:ws.length=5)(hg:bD n=true)(hi:inst n (atI (numsOf 6 ws) 0) (atI (numsOf 6 ws) 1)=true)(hr:rowOk n (Eah (numsOf 6 ws) c a)=true) :
  ∀ x∈numsOf 6 ws,0<=x/\x<10 ^ 4:=by
 obtain⟨v0,v1,v2,v3,v4,rfl⟩:=Gb9 hl
 have h1:=dS hi
 obtain⟨h2,h3,h4,h5⟩:=lH hr
 have hn:=aY hg
 have e0:atI (numsOf 6 [v0,v1,v2,v3,v4]) 0=bP v0 6:=rfl
 have e1:atI (numsOf 6 [v0,v1,v2,v3,v4]) 1=bP v1 6:=rfl
 have e2:(Eah (numsOf 6 [v0,v1,v2,v3,v4]) c a).ballot=bP v2 6:=rfl
 have e3:(Eah (numsOf 6 [v0,v1,v2,v3,v4]) c a).vote=bP v3 6:=rfl
 have e4:(Eah (numsOf 6 [v0,v1,v2,v3,v4]) c a).state=bP v4 6:=rfl
 rw[e0,e1]at h1
 rw[e2]at h2
 rw[e3]at h3
 rw[e4]at h4 h5
 intro x hx
 simp only[numsOf,Rbh,List.map_nil,Rbk,Rbs,or_false]at hx
 rcases hx with rfl|rfl|rfl|rfl|rfl<;>omega
theorem Kax {n:Int}{s:List UInt8}(h:(aN n s).2.2.2=true):gN (aN n s).1 (aN n s).2.1 (aN n s).2.2.1=s:=by
 have hj:=oH 124 s
 unfold aN at h ⊢
 generalize splitB 124 s=ps at h hj ⊢
 unfold vE at h ⊢
 split at h
 ·cases h
 rename_i hc
 rw[if_neg hc]
 simp only[Rbw,not_or,Rbe,Sbc,Tb1,decide_eq_false_iff_not,beq_iff_eq,Tb7,Qbq]at hc
 obtain⟨⟨⟨⟨⟨h1,h2⟩,h3⟩,h4⟩,h5,h6⟩,h7⟩:=hc
 obtain⟨p,q,t,rfl⟩:=Lb2 (l:=ps) (by omega)
 have e0:atI [p,q,t] 0=p:=rfl
 have e1:atI [p,q,t] 1=q:=rfl
 have e2:atI [p,q,t] 2=t:=rfl
 rw[e0]at h2 h6 h7 ⊢
 rw[e1]at h3 h7 ⊢
 rw[e2]at h4 h7 ⊢
 have hn:=Lbx h2 h5 h6 h7
 have h8:=(Hb7 h3).2
 have h9:=(Vaa h4).2.2
 have hp:=oH 32 p
 have a6:aT 6 (splitB 32 p)=true:=by
  simp only[aT,Rbg,decide_eq_true_eq]
  intro w hw
  exact (hn (bP w 6) (List.mem_map.2 ⟨w,hw,rfl⟩)).1
 have h10:=Dac a6
 generalize splitB 32 p=ws at h2 hp h10 ⊢
 obtain⟨v0,v1,v2,v3,v4,rfl⟩:=Gb9 h2
 have e5:aX (bP v0 6)=v0/\aX (bP v1 6)=v1/\aX (bP v2 6)=v2/\aX (bP v3 6)=v3/\aX (bP v4 6)=v4:=by simpa[numsOf] using h10
 rw[<- hj]
 show aX (bP v0 6)++32::aX (bP v1 6)++32::aX (bP v2 6)++32::aX (bP v3 6)++32::aX (bP v4 6)++124::pG (nQ q).1++124::gL (fH n t).1=bH 124 [p,q,t]
 rw[e5.1,e5.2.1,e5.2.2.1,e5.2.2.2.1,e5.2.2.2.2,h8,h9,<- hp]
 simp[bH]
theorem Ha8 {n:Int}{ps:List (List UInt8)}:vE n ps =
  if !((ps.length:Int)==3)||!aT 4 (splitB 32 (atI ps 0))||!(nQ (atI ps 1)).2||!(fH n (atI ps 2)).2||!((splitB 32 (atI ps 0)).length==5)||!(bD n&&inst n (atI (numsOf 4 (splitB 32 (atI ps 0))) 0) (atI (numsOf 4 (splitB 32 (atI ps 0))) 1)) ||
   !rowOk n (Eah (numsOf 4 (splitB 32 (atI ps 0))) (nQ (atI ps 1)).1 (fH n (atI ps 2)).1) then (0,0,Gb2,false)
  else (atI (numsOf 4 (splitB 32 (atI ps 0))) 0,atI (numsOf 4 (splitB 32 (atI ps 0))) 1,Eah (numsOf 4 (splitB 32 (atI ps 0))) (nQ (atI ps 1)).1 (fH n (atI ps 2)).1,true):=by
 unfold vE
 cases hA:aT 4 (splitB 32 (atI ps 0))
 ·simp only[Bool.not_false,Sb3,Sbw,if_true]
  rw[if_pos]
  cases hB:(!((ps.length:Int)==3)||!((splitB 32 (atI ps 0)).length==5)||!(nQ (atI ps 1)).2||!(fH n (atI ps 2)).2||!(bD n&&inst n (atI (numsOf 6 (splitB 32 (atI ps 0))) 0) (atI (numsOf 6 (splitB 32 (atI ps 0))) 1)) ||
    !rowOk n (Eah (numsOf 6 (splitB 32 (atI ps 0))) (nQ (atI ps 1)).1 (fH n (atI ps 2)).1))
  ·exfalso
   simp only[Bool.or_eq_false_iff,Sbc,Qbq,beq_iff_eq]at hB
   obtain⟨⟨⟨⟨⟨h1,h2⟩,h3⟩,h4⟩,h5,h6⟩,h7⟩:=hB
   have:=(Ka3 (m:=4) (Lbx h2 h5 h6 h7) (by decide)).2
   have h9:aT 4 (splitB 32 (atI ps 0))=true:=this
   rw[h9]at hA
   cases hA
  ·rfl
 ·rw[lI hA (by decide)]
  cases ((ps.length:Int)==3)<;>cases (nQ (atI ps 1)).2<;>cases (fH n (atI ps 2)).2<;>cases ((splitB 32 (atI ps 0)).length==5)<;>simp
theorem Ea0 {n:Int}{ps:List (List UInt8)}(h1:(ps.length:Int)=3)(h2:(splitB 32 (atI ps 0)).length=5)(h3:(nQ (atI ps 1)).2=true)(h4:(fH n (atI ps 2)).2=true)
  (h5:(bD n&&inst n (atI (numsOf 6 (splitB 32 (atI ps 0))) 0) (atI (numsOf 6 (splitB 32 (atI ps 0))) 1))=true) (h6:rowOk n (Eah (numsOf 6 (splitB 32 (atI ps 0))) (nQ (atI ps 1)).1 (fH n (atI ps 2)).1)=true) :
  vE n ps=(atI (numsOf 6 (splitB 32 (atI ps 0))) 0,atI (numsOf 6 (splitB 32 (atI ps 0))) 1,Eah (numsOf 6 (splitB 32 (atI ps 0))) (nQ (atI ps 1)).1 (fH n (atI ps 2)).1,true):=by
 unfold vE
 rw[h2,h3,h4,h5,h6,h1]
 rfl
theorem oW {n:Int}{ps:List (List UInt8)}(h:(ps.length:Int)≠3\/(splitB 32 (atI ps 0)).length≠5\/(nQ (atI ps 1)).2=false\/(fH n (atI ps 2)).2=false \/
  (bD n&&inst n (atI (numsOf 6 (splitB 32 (atI ps 0))) 0) (atI (numsOf 6 (splitB 32 (atI ps 0))) 1))=false\/rowOk n (Eah (numsOf 6 (splitB 32 (atI ps 0))) (nQ (atI ps 1)).1 (fH n (atI ps 2)).1)=false):vE n ps=(0,0,Gb2,false):=by
 unfold vE
 rw[if_pos]
 rcases h with h|h|h|h|h|h
 ·have:((ps.length:Int)==3)=false:=by simpa using h
  rw[this];simp
 ·have:((splitB 32 (atI ps 0)).length==5)=false:=by simpa using h
  rw[this];simp
 ·rw[h];simp
 ·rw[h];simp
 ·rw[h];simp
 ·rw[h];simp
theorem Kaw {n:Int}{ps:List (List UInt8)}(h1:(ps.length:Int)=3)(h0:aT 4 (splitB 32 (atI ps 0))=true)(h2:(splitB 32 (atI ps 0)).length=5)(h3:(nQ (atI ps 1)).2=true)(h4:(fH n (atI ps 2)).2=true)
  (h5:(bD n&&inst n (atI (numsOf 4 (splitB 32 (atI ps 0))) 0) (atI (numsOf 4 (splitB 32 (atI ps 0))) 1))=true) (h6:rowOk n (Eah (numsOf 4 (splitB 32 (atI ps 0))) (nQ (atI ps 1)).1 (fH n (atI ps 2)).1)=true) :
  vE n ps=(atI (numsOf 4 (splitB 32 (atI ps 0))) 0,atI (numsOf 4 (splitB 32 (atI ps 0))) 1,Eah (numsOf 4 (splitB 32 (atI ps 0))) (nQ (atI ps 1)).1 (fH n (atI ps 2)).1,true):=by
 rw[Ha8,h0,h2,h3,h4,h5,h6,h1]
 rfl
theorem Pao {n:Int}{ps:List (List UInt8)}(h:(ps.length:Int)≠3\/aT 4 (splitB 32 (atI ps 0))=false\/(splitB 32 (atI ps 0)).length≠5\/(nQ (atI ps 1)).2=false\/(fH n (atI ps 2)).2=false \/
  (bD n&&inst n (atI (numsOf 4 (splitB 32 (atI ps 0))) 0) (atI (numsOf 4 (splitB 32 (atI ps 0))) 1))=false\/rowOk n (Eah (numsOf 4 (splitB 32 (atI ps 0))) (nQ (atI ps 1)).1 (fH n (atI ps 2)).1)=false):vE n ps=(0,0,Gb2,false):=by
 rw[Ha8,if_pos]
 rcases h with h|h|h|h|h|h|h
 ·have:((ps.length:Int)==3)=false:=by simpa using h
  rw[this];simp
 ·rw[h];simp
 ·have:((splitB 32 (atI ps 0)).length==5)=false:=by simpa using h
  rw[this];simp
 ·rw[h];simp
 ·rw[h];simp
 ·rw[h];simp
 ·rw[h];simp
theorem Uaw {xs:List Int}(h:∀ x∈xs,0<=x/\x<=9999):(xs.flatMap fun x=>32::aX x).length<=10001*xs.length:=by
 induction xs with
 |nil=>simp
 | cons x xs ih =>
  have h1:=ih (fun y hy=>h y (Qb2 _ hy))
  have h2:=bC (h x Qb7).2
  simp only[Tbq,Qbs,Qbt]
  omega
theorem zX {n:Int}{s:List UInt8}:(fH n s).1.deps.length<=5:=by
 cases h:(fH n s).2
 ·have:(fH n s).1=⟨0,[]⟩:=by
   unfold fH Da9 at h ⊢
   split
   ·rfl
   ·rename_i hc
    rw[if_neg hc]at h
    cases h
  rw[this];simp
 ·obtain⟨h1,h2,_⟩:=Vaa h
  have h3:=(gP h2).2.2.1
  have h4:=aY h1
  omega
theorem vF {n:Int}{s:List UInt8}:(aN n s).2.2.1.attr.deps.length<=5:=by
 unfold aN vE
 split
 ·simp[Gb2]
 ·exact zX
def gW (n rep no:Int)(r:bL):List UInt8×Bool:=if bD n&&inst n rep no&&rowOk n r then (gN rep no r,true) else ([],false)
end Go.Proofs.YtdpfilpckndhcaaGreatDoor.Rf

namespace Go.Proofs.YtdpfilpckndhcaaGreatDoor.Rf
set_option linter.unusedVariables false
set_option linter.unusedSimpArgs false
end Go.Proofs.YtdpfilpckndhcaaGreatDoor.Rf

namespace Go.Proofs.YtdpfilpckndhcaaGreatDoor.Rf
set_option linter.unusedVariables false
set_option linter.unusedSimpArgs false
def pO (s:List UInt8)(h:Int):Int:=s.foldl (fun (h:Int) c=>(33*h+((c.toNat:Nat):Int)) % 65521) h
theorem qH:∀ (s:List UInt8) (h:Int),0<=h->h<65521->0<=pO s h/\pO s h<65521
 |[],h,h0,h1=>⟨h0,h1⟩
 |c::s,h,h0,h1=>qH s ((33*h+((c.toNat:Nat):Int)) % 65521) (by omega) (by omega)
theorem Gaw (s:List UInt8)(c:UInt8)(h:Int):pO (s++[c]) h=(33*pO s h+((c.toNat:Nat):Int)) % 65521:=by
 unfold pO
 rw[List.foldl_append]
 rfl
def iN (w:List UInt8):List UInt8:=[UInt8.ofNat w.length]++w
def rC (n:Int):List UInt8:=[UInt8.ofNat (n / 256).toNat,UInt8.ofNat (n % 256).toNat]
def bI (w:List UInt8):List UInt8:=iN w++rC (pO (iN w) 7)++[1]
def bQ (t:List UInt8):Nat:=(atI t 0).toNat
def pJ (t:List UInt8):List UInt8:=(t.take (bQ t+1)).drop 1
def okF (t:List UInt8):Bool:=decide (bQ t<=200)&&decide (bQ t+4<=t.length)&&bI (pJ t)==t.take (bQ t+4)
def aF (t:List UInt8):List (List UInt8):=if h:okF t=true then pJ t::aF (t.drop (bQ t+4)) else []
termination_by t.length
decreasing_by
 simp only[okF,Qbq,decide_eq_true_eq]at h
 rw[Rbn]
 omega
theorem iA {t:List UInt8}(h:okF t=true):aF t=pJ t::aF (t.drop (bQ t+4)):=by
 rw[aF,dif_pos h]
theorem bX {t:List UInt8}(h:okF t=false):aF t=[]:=by
 rw[aF,dif_neg (by rw[h];exact Bool.false_ne_true)]
theorem oF {t:List UInt8}(h:okF t=true):bQ t<=200/\bQ t+4<=t.length:=by
 simp only[okF,Qbq,decide_eq_true_eq]at h
 exact h.1
theorem oN {t:List UInt8}:(pJ t).length<=bQ t:=by
 unfold pJ
 rw[Rbn,Qb9]
 omega
theorem jF (s:List UInt8):(∀ w∈aF s,w.length<=200)/\(aF s).length<=s.length:=by
 have:∀ n (s:List UInt8),s.length<=n->(∀ w∈aF s,w.length<=200)/\(aF s).length<=s.length:=by
  intro n
  induction n with
  | zero =>
   intro s hs
   have:okF s=false:=by
    cases h:okF s
    ·rfl
    ·have:=oF h
     omega
   rw[bX this]
   exact⟨fun w hw=>(by cases hw),by simp⟩
  | succ n ih =>
   intro s hs
   cases h:okF s
   ·rw[bX h]
    exact⟨fun w hw=>(by cases hw),by simp⟩
   ·have hr:=oF h
    obtain⟨h1,h2⟩:=ih (s.drop (bQ s+4)) (by rw[Rbn];omega)
    rw[iA h]
    refine⟨fun w hw=>?_,?_⟩
    ·rcases List.mem_cons.1 hw with rfl|hw
     ·exact Sbn oN hr.1
     ·exact h1 w hw
    ·rw[Rbn]at h2
     simp only[Qbt]
     omega
 exact this s.length s (Qbw _)
theorem Pa1 {s:List UInt8}{f:Nat}(h:f<s.length):bQ (s.drop f)=(atI s (f:Int)).toNat:=by
 unfold bQ
 have:atI (s.drop f) 0=atI s (f:Int):=by
  rw[Sbz h,cK h]
  rfl
 rw[this]
theorem Pav {s:List UInt8}{f:Nat}:pJ (s.drop f)=(s.take (f+1+bQ (s.drop f))).drop (f+1):=by
 unfold pJ
 rw[List.drop_take,List.drop_take,List.drop_drop]
 congr 1
 omega
theorem Qa0 {s:List UInt8}{f m:Nat}:(s.drop f).take m=(s.take (f+m)).drop f:=by
 rw[List.drop_take]
 congr 1
 omega
def jJ (n:Int):List (List UInt8)->Int->aR->Int×aR
 |[],l,t=>(l,t)
 |w::ws,l,t=>if (aN n w).2.2.2 then jJ n ws (l+((w.length:Int)+4)) (sV t (aN n w).1 (aN n w).2.1 (aN n w).2.2.1) else (l,t)
theorem qW {n:Int}{s:List UInt8}(h:(aN n s).2.2.2=true):bD n=true/\inst n (aN n s).1 (aN n s).2.1=true:=by
 unfold aN vE at h ⊢
 split at h
 ·cases h
 ·rename_i hc
  rw[if_neg hc]
  simp only[Rbw,not_or,Rbe,Sbc,Tb1,Tb7,Qbq]at hc
  exact hc.1.2
theorem Aax {n:Int}(hg:bD n=true):∀ (ws:List (List UInt8)) (l:Int) (t:aR),Bbn n t->Bbn n (jJ n ws l t).2
 |[],l,t,h=>h
 | w :: ws, l, t, h => by
  simp only[jJ]
  split
  ·rename_i hok
   have hi:=dS (qW hok).2
   have hn:=aY hg
   refine Aax hg ws _ _ (Ead h (by omega) ?_ hi.2.2.1 hi.2.2.2 vF)
   have:=h.2.1
   unfold InB
   omega
  ·exact h
def nU (n:Int):aR:=⟨n,Qb0 n.toNat []⟩
def Bah (n:Int)(s:List UInt8):aR×Int×Bool :=
 if bD n&&!decide (20000<(s.length:Int)) then ((jJ n (aF s) 0 (nU n)).2,(jJ n (aF s) 0 (nU n)).1,true) else (⟨0,[]⟩,0,false)
theorem Abo (n:Int)(s:List UInt8):szL (szL rD) (Bah n s).1.rows<=1000:=by
 unfold Bah
 split
 ·rename_i h
  simp only[Qbq]at h
  have hn:=aY h.1
  exact Ibf (Aax h.1 _ _ _ (qU (by omega))) (by omega)
 ·simp[szL]
theorem Da0 {α:Type}[Inhabited α]{s:List α}{i:Nat}(h:i<s.length):s.drop i=atI s (i:Int)::s.drop (i+1):=by
 rw[Sbz h,cK h]
end Go.Proofs.YtdpfilpckndhcaaGreatDoor.Rf

namespace Go.Proofs.YtdpfilpckndhcaaGreatDoor.Rf
set_option linter.unusedVariables false
set_option linter.unusedSimpArgs false
theorem Eby:∀ n:Nat,Lib.decDigits n=Jax n:=by
 intro n
 induction n using Tbd with
 | _ n ih =>
  rw[Lib.decDigits]
  by_cases h:n<10
  ·rw[rU h]
   simp[h]
  ·rw[wQ (by omega)]
   simp[h,ih (n / 10) (by omega)]
theorem Ebg {n:Int}(h0:0<=n):Lib.itoa n=aX n:=by
 unfold Lib.itoa aX
 rw[if_neg (by omega),Eby]
theorem Uau {n:Int}(h0:0<=n)(h1:n<=9999):Ebm [i64 n,i64 10]=some [.str (aX n)]:=by
 show (if (10:Int)=10/\-9223372036854775808<=n/\n<=9223372036854775807 then some [D.str (Lib.itoa n)] else none)=_
 rw[if_pos ⟨rfl,by omega,by omega⟩,Ebg h0]
theorem Za3 {b:UInt8}:∀ xs:List (List UInt8),Lib.join xs [b]=bH b xs
 |[]=>rfl
 |[x]=>by simp[Lib.join,List.intercalate,bH]
 | x :: y :: r => by
  have ih:=Za3 (b:=b) (y::r)
  simp only[Lib.join,List.intercalate,bH]at ih ⊢
  simp[List.intersperse,<- ih]
theorem Oa2:∀ xs:List (List UInt8),strsOf (xs.map fun s=>[D.str s])=some xs
 |[]=>rfl
 | x :: r => by
  simp only[Rbh,strsOf,Oa2 r]
  rfl
theorem Za4 {xs:List (List UInt8)}{b:UInt8}(hne:xs≠[])(hl:xs.length<=100000)(hw:∀ w∈xs,w.length<=10000):Nap [rL xs,.str [b]]=some [.str (bH b xs)]:=by
 have e:(rL xs:D)=.rows 1 (xs.map fun s=>[D.str s]):=rfl
 have h1:=lK (b:=b) (ws:=xs) hw
 rw[e]
 show (strsOf (xs.map fun s=>[D.str s])).bind _=_
 rw[Oa2,Option.bind_some,if_pos,Za3]
 rw[Za3]
 exact⟨hne,by omega,by omega⟩
theorem Ua7 {c:nS}(hc:dC c=true):(pG c).length<=100000:=by
 obtain⟨⟨i0,i1⟩,⟨f0,f1⟩,⟨t0,t1⟩,a0,a1⟩:=nO hc
 have li:=bC i1
 have lf:=bC f1
 have lt:=bC t1
 have la:=bC a1
 unfold pG
 split
 ·simp only[Qbs,Qbt,Qbu];omega
 ·split
  ·simp only[Qbs,Qbt,Qbu];omega
  ·simp
end Go.Proofs.YtdpfilpckndhcaaGreatDoor.Rf

namespace Go.Proofs.YtdpfilpckndhcaaGreatDoor.Rf
set_option linter.unusedVariables false
set_option linter.unusedSimpArgs false
theorem Nac:∀ (k n:Nat),n<10 ^ (k+1)->(Jax n).length<=k+1
 | 0, n, h => by
  rw[rU (by simpa using h)]
  simp
 | k + 1, n, h => by
  rcases Rbj n 10 with h1|h1
  ·rw[rU h1];simp
  ·rw[wQ h1,Qbs]
   have:=Nac k (n / 10) (by rw[Nat.pow_succ]at h;omega)
   simp only[Qbt,Qbu]
   omega
theorem jW {n:Int}(h:n<=9999):(aX n).length<=4:=Nac 3 n.toNat (by simp;omega)
theorem Ka8 {b:UInt8}:∀ {ws:List (List UInt8)},(∀ w∈ws,w.length<=4)->(bH b ws).length<=5*ws.length
 |[],_=>by simp[bH]
 | [v], h => by
  have:=h v (by simp)
  simp only[bH,Qbt,Qbu]
  omega
 | v :: u :: ws, h => by
  have ih:=Ka8 (b:=b) (ws:=u::ws) (fun w hw=>h w (Qb2 _ hw))
  have:=h v (by simp)
  simp only[bH,Qbs,Qbt]at ih ⊢
  omega
theorem Eb0 {c:nS}(hc:dC c=true):(pG c).length<=24:=by
 obtain⟨⟨i0,i1⟩,⟨f0,f1⟩,⟨t0,t1⟩,a0,a1⟩:=nO hc
 have li:=jW i1
 have lf:=jW f1
 have lt:=jW t1
 have la:=jW a1
 unfold pG
 split
 ·simp only[Qbs,Qbt,Qbu];omega
 ·split
  ·simp only[Qbs,Qbt,Qbu];omega
  ·simp
theorem Rac {n:Int}{a:gT}(hg:bD n=true)(h:fC n a=true):(gL a).length<=30:=by
 have h1:=gP h
 have hn:=aY hg
 have l1:=jW (n:=a.seq) (by omega)
 have l2:=Ka8 (b:=44) (ws:=a.deps.map aX) (by
  intro w hw
  obtain⟨x,h2,rfl⟩:=List.mem_map.1 hw
  exact jW (by have:=(h1.2.2.2 x h2).2;omega))
 rw[Rbf]at l2
 simp only[gL,Qbs,Qbt]
 omega
theorem nE {n rep no:Int}{r:bL}(hg:bD n=true)(hi:inst n rep no=true)(hr:rowOk n r=true):(gN rep no r).length<=100:=by
 have h1:=dS hi
 have hn:=aY hg
 have h2:=lH hr
 have l1:=jW (n:=rep) (by omega)
 have l2:=jW (n:=no) (by omega)
 have l3:=jW (n:=r.ballot) (by omega)
 have l4:=jW (n:=r.vote) (by omega)
 have l5:=jW (n:=r.state) (by omega)
 have l6:=Eb0 (nG hr)
 have l7:=Rac hg (kM hr hg)
 simp only[gN,Qbs,Qbt]
 omega
theorem fA {w:List UInt8}:(bI w).length=w.length+4:=by
 simp only[bI,iN,rC,Qbs,Qbt,Qbu]
 omega
def lG (ws:List (List UInt8)):Nat:=ws.foldr (fun w m=>w.length+4+m) 0
theorem wB (s:List UInt8):lG (aF s)<=s.length:=by
 have:∀ n (s:List UInt8),s.length<=n->lG (aF s)<=s.length:=by
  intro n
  induction n with
  | zero =>
   intro s hs
   have:okF s=false:=by
    cases h:okF s
    ·rfl
    ·have:=oF h
     omega
   rw[bX this]
   exact Sb5 _
  | succ n ih =>
   intro s hs
   cases h:okF s
   ·rw[bX h]
    exact Sb5 _
   ·have hr:=oF h
    have h1:=ih (s.drop (bQ s+4)) (by rw[Rbn];omega)
    have h2:=oN (t:=s)
    rw[iA h]
    rw[Rbn]at h1
    show (pJ s).length+4+lG (aF (s.drop (bQ s+4)))<=s.length
    omega
 exact this s.length s (Qbw _)
theorem Saz {n:Int}:∀ (ws:List (List UInt8)) (l:Int) (t:aR),(jJ n ws l t).1<=l+(lG ws:Nat)
 |[],l,t=>by simp[jJ,lG]
 | w :: ws, l, t => by
  have e:lG (w::ws)=w.length+4+lG ws:=rfl
  rw[e]
  simp only[jJ]
  split
  ·have:=Saz (n:=n) ws (l+((w.length:Int)+4)) (sV t (aN n w).1 (aN n w).2.1 (aN n w).2.2.1)
   omega
  ·simp only
   omega
def Gap (n:Int)(s:List UInt8)(rep no:Int)(r:bL):List UInt8×Bool :=
 if (gW n rep no r).2&&!decide (20000<(s.length:Int))&&!decide ((jJ n (aF s) 0 (nU n)).1<(s.length:Int))&&!decide (20000<(s.length:Int)+((gN rep no r).length:Int)+4) then (s++bI (gN rep no r),true) else ([],false)
end Go.Proofs.YtdpfilpckndhcaaGreatDoor.Rf

namespace Go.Proofs.YtdpfilpckndhcaaGreatDoor.Rf
set_option linter.unusedVariables false
set_option linter.unusedSimpArgs false
def Cac (rep:Int)(xs:List bL):Nat->List UInt8
 |0=>[]
 |k+1=>Cac rep xs k++bI (gN rep ((k:Int)+1) (atI xs (k:Int)))
def yC (rows:List (List bL)):Nat->List UInt8
 |0=>[]
 |i+1=>yC rows i++Cac (i:Int) (atI rows (i:Int)) (atI rows (i:Int)).length
theorem Har {t:aR}(h:eQ t=true){i j:Nat}(hi:i<t.rows.length)(hj:j<(atI t.rows (i:Int)).length) :
  bD t.n=true/\inst t.n (i:Int) ((j:Int)+1)=true/\rowOk t.n (atI (atI t.rows (i:Int)) (j:Int))=true/\(atI t.rows (i:Int)).length<=6:=by
 have hg:=gB h
 have hl:=lD h
 obtain⟨h1,h2⟩:=kJ h (at_mem hi)
 refine⟨hg,?_,h2 _ (at_mem hj),h1⟩
 simp only[inst,inR,Qbq,decide_eq_true_eq]
 omega
theorem Ca2 {t:aR}(h:eQ t=true){i:Nat}(hi:i<t.rows.length):∀ j:Nat,j<=(atI t.rows (i:Int)).length->(Cac (i:Int) (atI t.rows (i:Int)) j).length<=104*j
 |0,_=>by simp[Cac]
 | j + 1, hj => by
  have ih:=Ca2 h hi j (by omega)
  obtain⟨h1,h2,h3,h4⟩:=Har h hi (j:=j) (by omega)
  have:=nE h1 h2 h3
  simp only[Cac,Qbs,fA]
  omega
theorem Gau {t:aR}(h:eQ t=true):∀ i:Nat,i<=t.rows.length->(yC t.rows i).length<=624*i
 |0,_=>by simp[yC]
 | i + 1, hi => by
  have ih:=Gau h i (by omega)
  have h1:=Ca2 h (i:=i) (by omega) _ (Qbw _)
  have h2:=(kJ h (at_mem (show i<t.rows.length by omega))).1
  simp only[yC,Qbs]
  omega
def Pa0 (t:aR):List UInt8×Bool:=if eQ t&&!decide (20000<((yC t.rows t.rows.length).length:Int)) then (yC t.rows t.rows.length,true) else ([],false)
end Go.Proofs.YtdpfilpckndhcaaGreatDoor.Rf

namespace Go.Proofs.YtdpfilpckndhcaaGreatDoor.Rf
set_option linter.unusedVariables false
set_option linter.unusedSimpArgs false
theorem ofNat_toNat {d:Nat}(h:d<10):(UInt8.ofNat (48+d)).toNat=48+d:=by
 rw[UInt8.toNat_ofNat']
 omega
theorem Uah:∀ n:Nat,(Jax n).all cB=true:=by
 intro n
 induction n using Tbd with
 | _ n ih =>
  have hd:∀ d:Nat,d<10->cB (UInt8.ofNat (48+d))=true:=by
   intro d hd
   unfold cB
   rw[ofNat_toNat hd]
   simp
   omega
  rcases Rbj n 10 with h|h
  ·rw[rU h]
   simp only[Tbf,Ubg,Sbh,hd n h]
  ·rw[wQ h,List.all_append,ih (n / 10) (by omega)]
   simp only[Tbf,Ubg,Sbh,Bool.true_and,hd (n % 10) (by omega)]
theorem Xaf:∀ n:Nat,lC (Jax n)=n:=by
 intro n
 induction n using Tbd with
 | _ n ih =>
  rcases Rbj n 10 with h|h
  ·rw[rU h]
   show 10*0+(((UInt8.ofNat (48+n)).toNat:Int)-48)=n
   rw[ofNat_toNat h]
   omega
  ·rw[wQ h,vU,ih (n / 10) (by omega),ofNat_toNat (by omega)]
   omega
theorem Zan:∀ n:Nat,1<=n->∃ c r,Jax n=c::r/\(c==48)=false:=by
 intro n
 induction n using Tbd with
 | _ n ih =>
  intro hn
  rcases Rbj n 10 with h|h
  ·rw[rU h]
   refine⟨_,[],rfl,?_⟩
   rw[beq_eq_false_iff_ne]
   intro e
   have:=congrArg UInt8.toNat e
   rw[ofNat_toNat h]at this
   have h48:(48:UInt8).toNat=48:=rfl
   omega
  ·obtain⟨c,r,h1,h2⟩:=ih (n / 10) (by omega) (by omega)
   rw[wQ h,h1]
   exact⟨c,_,rfl,h2⟩
theorem Zam (n:Nat):lead (Jax n)=false:=by
 rcases Rbj n 1 with h|h
 ·obtain rfl:n=0:=by omega
  rw[rU (by omega)]
  rfl
 ·obtain⟨c,r,h1,h2⟩:=Zan n h
  rw[h1]
  unfold lead
  simp only[h2,Bool.false_and]
theorem Ab2 {n:Int}{m:Nat}(h0:0<=n)(h1:n<10 ^ (m+1)):bP (aX n) ((m+1:Nat):Int)=n:=by
 have h2:n.toNat<10 ^ (m+1):=by
  have:((10 ^ (m+1):Nat):Int)=(10:Int) ^ (m+1):=by simp
  omega
 have h3:=Nac m n.toNat h2
 unfold aX
 rw[Sa7 (Uah _) (by omega) (Zam _),Xaf]
 omega
theorem tO {n:Int}{b:UInt8}(hb:cB b=false):b∉aX n:=by
 intro h
 have:=Uah n.toNat
 rw[Rbg]at this
 rw[this b h]at hb
 cases hb
theorem nZ {b:UInt8}:∀ {ws:List (List UInt8)},ws≠[]->(∀ w∈ws,b∉w)->splitB b (bH b ws)=ws
 |[],h,_=>absurd rfl h
 |[w],_,h=>mX (h w (by simp))
 | w :: v :: ws, _, h => by
  show splitB b (w++b::bH b (v::ws))=_
  rw[mG _ (h w (by simp)),nZ (by simp) (fun x hx=>h x (Qb2 _ hx))]
theorem Dam {b c:UInt8}(hcb:c≠b):∀ {ws:List (List UInt8)},(∀ w∈ws,c∉w)->c∉bH b ws
 |[],_=>by simp[bH]
 |[w],h=>h w (by simp)
 | w :: v :: ws, h => by
  have ih:=Dam hcb (ws:=v::ws) (fun x hx=>h x (Qb2 _ hx))
  show c∉w++b::bH b (v::ws)
  simp only[Sbt,Rbk,not_or]
  exact⟨h w (by simp),hcb,ih⟩
theorem Sa8 {n:Int}(h0:0<=n)(h1:n<=9999):bP (aX n) 4=n:=Ab2 (m:=3) h0 (by omega)
theorem Hbw {n:Int}(h0:0<=n)(h1:n<=9999):bP (aX n) 6=n:=by
 have h4:=Sa8 h0 h1
 rw[Sa6 (m:=4) (by omega) (by decide),h4]
theorem Aan {m:Int}{xs:List Int}(h:∀ x∈xs,bP (aX x) m=x):numsOf m (xs.map aX)=xs:=by
 unfold numsOf
 rw[List.map_map]
 conv=>rhs;rw[<- List.map_id xs]
 exact Sb7 fun x hx=>h x hx
theorem Lap {m:Int}{xs:List Int}(h:∀ x∈xs,bP (aX x) m=x/\0<=x):aT m (xs.map aX)=true:=by
 simp only[aT,Rbg,List.mem_map,decide_eq_true_eq]
 rintro w ⟨x,hx,rfl⟩
 rw[(h x hx).1]
 exact (h x hx).2
theorem Ab7 {c:nS}(h:dC c=true):nQ (pG c)=(c,true):=by
 obtain⟨⟨i0,i1⟩,⟨f0,f1⟩,⟨t0,t1⟩,a0,a1⟩:=nO h
 have hk:=vQ h
 have n32:∀ x:Int,(32:UInt8)∉aX x:=fun x=>tO (by decide)
 cases c with
 |mk k i f t a =>
 simp only at i0 i1 f0 f1 t0 t1 a0 a1 hk
 unfold nQ
 rcases hk with rfl|rfl|rfl
 ·have hz:(⟨0,i,f,t,a⟩:nS)=⟨0,0,0,0,0⟩:=by
   have:dC ⟨0,i,f,t,a⟩=decide ((⟨0,i,f,t,a⟩:nS)=⟨0,0,0,0,0⟩):=rfl
   rw[this]at h
   exact of_decide_eq_true h
  rw[hz]
  rfl
 ·have ht:pG ⟨1,i,f,t,a⟩=bH 32 ([109,111,118,101]::[i,f,t,a].map aX):=by
   simp[pG,bH]
  rw[ht,nZ (by simp) (by
   intro w hw
   rcases List.mem_cons.1 hw with rfl|hw
   ·decide
   ·obtain⟨x,_,rfl⟩:=List.mem_map.1 hw
    exact n32 x)]
  have hd:([109,111,118,101]::[i,f,t,a].map aX).drop 1=[i,f,t,a].map aX:=rfl
  have hr:∀ x∈[i,f,t,a],bP (aX x) 4=x/\0<=x:=by
   intro x hx
   simp only[Rbk,Rbs,or_false]at hx
   rcases hx with rfl|rfl|rfl|rfl
   ·exact⟨Sa8 i0 i1,i0⟩
   ·exact⟨Sa8 f0 f1,f0⟩
   ·exact⟨Sa8 t0 t1,t0⟩
   ·exact⟨Sa8 a0 a1,a0⟩
  have:=iL (ws:=[109,111,118,101]::[i,f,t,a].map aX) (k:=1) (show pW [109,111,118,101]=1 by decide) (by decide) rfl (by rw[hd];exact Lap hr) (by rw[hd,Aan fun x hx=>(hr x hx).1];exact h)
  rw[this,hd,Aan fun x hx=>(hr x hx).1]
  rfl
 ·have hz:t=0/\a=0:=by
   have:dC ⟨2,i,f,t,a⟩=(inR i 1 999&&inR f 0 3&&t==0&&a==0):=rfl
   rw[this]at h
   simp only[Qbq,beq_iff_eq]at h
   exact⟨h.1.2,h.2⟩
  obtain⟨rfl,rfl⟩:=hz
  have ht:pG ⟨2,i,f,0,0⟩=bH 32 ([114,101,97,100]::[i,f].map aX):=by
   simp[pG,bH]
  rw[ht,nZ (by simp) (by
   intro w hw
   rcases List.mem_cons.1 hw with rfl|hw
   ·decide
   ·obtain⟨x,_,rfl⟩:=List.mem_map.1 hw
    exact n32 x)]
  have hd:([114,101,97,100]::[i,f].map aX).drop 1=[i,f].map aX:=rfl
  have hr:∀ x∈[i,f],bP (aX x) 4=x/\0<=x:=by
   intro x hx
   simp only[Rbk,Rbs,or_false]at hx
   rcases hx with rfl|rfl
   ·exact⟨Sa8 i0 i1,i0⟩
   ·exact⟨Sa8 f0 f1,f0⟩
  have:=iL (ws:=[114,101,97,100]::[i,f].map aX) (k:=2) (show pW [114,101,97,100]=2 by decide) (by decide) rfl (by rw[hd];exact Lap hr) (by rw[hd,Aan fun x hx=>(hr x hx).1];exact h)
  rw[this,hd,Aan fun x hx=>(hr x hx).1]
  rfl
theorem Wa3 {n:Int}{a:gT}(hg:bD n=true)(h:fC n a=true):fH n (gL a)=(a,true):=by
 obtain⟨r1,r2,r3,r4⟩:=gP h
 have hn:=aY hg
 have hfew:=Rac hg h
 have hne:a.deps≠[]:=by
  intro e
  rw[e]at r3
  simp only[Qbu]at r3
  omega
 have hdig:∀ x∈a.deps,bP (aX x) 6=x:=fun x hx=>Hbw (r4 x hx).1 (by have:=(r4 x hx).2;omega)
 have h58:(58:UInt8)∉bH 44 (a.deps.map aX):=Dam (by decide) (fun w hw=>by
  obtain⟨x,_,rfl⟩:=List.mem_map.1 hw
  exact tO (by decide))
 have h44:splitB 44 (bH 44 (a.deps.map aX))=a.deps.map aX:=nZ (by simpa using hne) (fun w hw=>by
  obtain⟨x,_,rfl⟩:=List.mem_map.1 hw
  exact tO (by decide))
 have hs:splitB 58 (gL a)=[aX a.seq,bH 44 (a.deps.map aX)]:=by
  unfold gL
  rw[mG _ (tO (by decide)),mX h58]
 unfold fH
 rw[hs]
 unfold Da9
 have e0:atI [aX a.seq,bH 44 (a.deps.map aX)] 0=aX a.seq:=rfl
 have e1:atI [aX a.seq,bH 44 (a.deps.map aX)] 1=bH 44 (a.deps.map aX):=rfl
 rw[e0,e1,h44,Aan hdig,Hbw r1 (by omega)]
 have eta:(⟨a.seq,a.deps⟩:gT)=a:=rfl
 rw[eta,hg,h,decide_eq_false (show ¬40<((gL a).length:Int) by omega)]
 rfl
theorem Aaj {n rep no:Int}{r:bL}(hg:bD n=true)(hi:inst n rep no=true)(hr:rowOk n r=true):aN n (gN rep no r)=(rep,no,r,true):=by
 have h1:=dS hi
 have hn:=aY hg
 have h2:=lH hr
 have hc:=nG hr
 have ha:=kM hr hg
 have hL:∀ x∈[rep,no,r.ballot,r.vote,r.state],bP (aX x) 6=x:=by
  intro x hx
  simp only[Rbk,Rbs,or_false]at hx
  rcases hx with rfl|rfl|rfl|rfl|rfl<;>exact Hbw (by omega) (by omega)
 have n124c:(124:UInt8)∉pG r.cmd:=by
  have n1:∀ x:Int,(124:UInt8)∉aX x:=fun x=>tO (by decide)
  unfold pG
  split
  ·simp[n1]
  ·split
   ·simp[n1]
   ·decide
 have n124a:(124:UInt8)∉gL r.attr:=by
  have n1:∀ x:Int,(124:UInt8)∉aX x:=fun x=>tO (by decide)
  have n2:(124:UInt8)∉bH 44 (r.attr.deps.map aX):=Dam (by decide) (fun w hw=>by
   obtain⟨x,_,rfl⟩:=List.mem_map.1 hw
   exact n1 x)
  unfold gL
  simp[n1,n2]
 have ht:gN rep no r=bH 124 [bH 32 ([rep,no,r.ballot,r.vote,r.state].map aX),pG r.cmd,gL r.attr]:=by
  simp[gN,bH]
 have hs:splitB 124 (gN rep no r)=[bH 32 ([rep,no,r.ballot,r.vote,r.state].map aX),pG r.cmd,gL r.attr]:=by
  rw[ht]
  refine nZ (by simp) (fun w hw=>?_)
  simp only[Rbk,Rbs,or_false]at hw
  rcases hw with rfl|rfl|rfl
  ·exact Dam (by decide) (fun w hw=>by
    obtain⟨x,_,rfl⟩:=List.mem_map.1 hw
    exact tO (by decide))
  ·exact n124c
  ·exact n124a
 have h32:splitB 32 (bH 32 ([rep,no,r.ballot,r.vote,r.state].map aX))=[rep,no,r.ballot,r.vote,r.state].map aX:=nZ (by simp) (fun w hw=>by
  obtain⟨x,_,rfl⟩:=List.mem_map.1 hw
  exact tO (by decide))
 unfold aN
 rw[hs]
 generalize hp:bH 32 ([rep,no,r.ballot,r.vote,r.state].map aX)=p at *
 have e0:atI [p,pG r.cmd,gL r.attr] 0=p:=rfl
 have e1:atI [p,pG r.cmd,gL r.attr] 1=pG r.cmd:=rfl
 have e2:atI [p,pG r.cmd,gL r.attr] 2=gL r.attr:=rfl
 have hN:numsOf 6 (splitB 32 (atI [p,pG r.cmd,gL r.attr] 0))=[rep,no,r.ballot,r.vote,r.state]:=by
  rw[e0,h32,Aan hL]
 have hC:nQ (atI [p,pG r.cmd,gL r.attr] 1)=(r.cmd,true):=by rw[e1];exact Ab7 hc
 have hA:fH n (atI [p,pG r.cmd,gL r.attr] 2)=(r.attr,true):=by rw[e2];exact Wa3 hg ha
 have hrow:Eah [rep,no,r.ballot,r.vote,r.state] r.cmd r.attr=r:=rfl
 have:=Ea0 (n:=n) (ps:=[p,pG r.cmd,gL r.attr]) rfl (by rw[e0,h32];rfl) (by rw[hC]) (by rw[hA]) (by rw[hN,hg];exact hi) (by rw[hN,hC,hA,hrow];exact hr)
 rw[this,hN,hC,hA]
 rfl
end Go.Proofs.YtdpfilpckndhcaaGreatDoor.Rf

namespace Go.Proofs.YtdpfilpckndhcaaGreatDoor.Rf
set_option linter.unusedVariables false
set_option linter.unusedSimpArgs false
theorem Fac {w s:List UInt8}(hw:w.length<=200):bQ (bI w++s)=w.length:=by
 unfold bQ
 have:atI (bI w++s) 0=UInt8.ofNat w.length:=rfl
 rw[this,UInt8.toNat_ofNat']
 omega
theorem Qah {w s:List UInt8}(hw:w.length<=200):pJ (bI w++s)=w:=by
 unfold pJ
 rw[Fac hw]
 have e:bI w++s=UInt8.ofNat w.length::(w++(rC (pO (iN w) 7)++[1]++s)):=by
  simp[bI,iN]
 rw[e,List.take_succ_cons,List.drop_succ_cons,Sb9,List.take_left']
 rfl
theorem Ebj {w s:List UInt8}(hw:w.length<=200):okF (bI w++s)=true:=by
 unfold okF
 have hl:=fA (w:=w)
 have ht:(bI w++s).take (w.length+4)=bI w:=by rw[<- hl];exact List.take_left' rfl
 rw[Fac hw,Qah hw,ht,Qbs,hl]
 simp
 omega
theorem Saw {w s:List UInt8}(hw:w.length<=200):aF (bI w++s)=w::aF s:=by
 have hl:=fA (w:=w)
 rw[iA (Ebj hw),Qah hw,Fac hw]
 congr 2
 rw[<- hl]
 exact List.drop_left' rfl
theorem Aaw:∀ {ws:List (List UInt8)},(∀ w∈ws,w.length<=200)->aF (ws.flatMap bI)=ws
 |[],_=>bX (by decide)
 | w :: ws, h => by
  rw[Tbq,Saw (h w Qb7),Aaw fun x hx=>h x (Qb2 _ hx)]
def Ebi (s:List UInt8):List UInt8×Bool:=if decide (200<(s.length:Int)) then ([],false) else (bI s,true)
def Wa8 (s:List UInt8)(k:Int):List UInt8×Bool:=if decide (20000<(s.length:Int))||!inR k 0 (s.length:Int) then ([],false) else (s.take k.toNat,true)
end Go.Proofs.YtdpfilpckndhcaaGreatDoor.Rf

namespace Go.Proofs.YtdpfilpckndhcaaGreatDoor.Rf
set_option linter.unusedVariables false
set_option linter.unusedSimpArgs false
def prL (y:List Int):Int×Int:=(atI y 0,atI y 1)
def toL (p:Int×Int):List Int:=[p.1,p.2]
theorem Laz {y:List Int}(h:y.length=2):toL (prL y)=y:=by
 match y,h with
 |[a,b],_=>rfl
theorem Zac (p:Int×Int):prL (toL p)=p:=rfl
def ltL (y z:List Int):Prop:=ltQ (prL y) (prL z)=true
theorem uN {y z:List Int}:ltL y z↔atI y 0<atI z 0\/(atI y 0=atI z 0/\atI y 1<atI z 1):=Sap
def Aa6 (l:List (List Int)):Prop:=l.Pairwise ltL
theorem Ha2:∀ {xs ys:List (List Int)},Aa6 xs->Aa6 ys->(∀ x,x∈xs↔x∈ys)->xs=ys
 |[],[],_,_,_=>rfl
 |[],y::ys,_,_,h=>by have:=(h y).2 Qb7;cases this
 |x::xs,[],_,_,h=>by have:=(h x).1 Qb7;cases this
 | x :: xs, y :: ys, hx, hy, h => by
  unfold Aa6 at hx hy
  rw[Tbo]at hx hy
  have e:x=y:=by
   rcases List.mem_cons.1 ((h x).1 Qb7) with h1|h1
   ·exact h1
   ·rcases List.mem_cons.1 ((h y).2 Qb7) with h2|h2
    ·exact h2.symm
    ·have h3:=uN.1 (hx.1 y h2)
     have h4:=uN.1 (hy.1 x h1)
     omega
  subst e
  congr 1
  refine Ha2 hx.2 hy.2 fun z=>?_
  constructor
  ·intro hz
   rcases List.mem_cons.1 ((h z).1 (Qb2 _ hz)) with h1|h1
   ·subst h1
    have:=uN.1 (hx.1 z hz)
    omega
   ·exact h1
  ·intro hz
   rcases List.mem_cons.1 ((h z).2 (Qb2 _ hz)) with h1|h1
   ·subst h1
    have:=uN.1 (hy.1 z hz)
    omega
   ·exact h1
theorem Ra8 {l:List (List Int)}(h2:∀ y∈l,y.length=2)(hn:l.Nodup):Aa6 ((Ra9 id (l.map prL)).map toL)/\∀ y,y∈(Ra9 id (l.map prL)).map toL↔y∈l:=by
 have hp:=Kap id (l.map prL)
 have hs:=Fau id (l.map prL)
 have hnd:(l.map prL).Nodup:=by
  unfold List.Nodup
  rw[List.pairwise_map]
  refine List.Pairwise.imp_of_mem (fun {a b} ha hb hab e=>hab ?_) hn
  rw[<- Laz (h2 a ha),<- Laz (h2 b hb),e]
 have hnd2:(Ra9 id (l.map prL)).Nodup:=hp.nodup_iff.2 hnd
 constructor
 ·unfold Aa6
  rw[List.pairwise_map]
  have h3:=List.pairwise_and_iff.2 ⟨hs,hnd2⟩
  refine h3.imp fun {a b} hab=>?_
  unfold ltL
  rw[Zac,Zac]
  have h4:ltQ b a=false:=hab.1
  cases h5:ltQ a b with
  |true=>rfl
  |false=>exact absurd (Eba h5 h4) hab.2
 ·intro y
  rw[List.mem_map]
  constructor
  ·rintro⟨p,hp1,rfl⟩
   obtain⟨z,hz,rfl⟩:=List.mem_map.1 (hp.mem_iff.1 hp1)
   rw[Laz (h2 z hz)]
   exact hz
  ·intro hy
   exact⟨prL y,hp.mem_iff.2 (List.mem_map.2 ⟨y,hy,rfl⟩),Laz (h2 y hy)⟩
def sQ (n:Int)(y:List Int):Prop:=y.length=2/\inst n (atI y 0) (atI y 1)=true
def zZ (n:Nat):List (List Int):=(Ubc n).flatMap fun k:Nat=>(Ubc 6).map fun i:Nat=>[(k:Int),(i:Int)+1]
theorem Jaj {n:Nat}{y:List Int}:y∈zZ n↔sQ n y:=by
 unfold zZ sQ
 simp only[List.mem_flatMap,Ubd,List.mem_map]
 constructor
 ·rintro⟨k,hk,i,hi,rfl⟩
  refine⟨rfl,?_⟩
  simp only[atI,inst,inR,Qbq,decide_eq_true_eq]
  simp
  omega
 ·rintro⟨h1,h2⟩
  match y,h1 with
  | [a, b], _ =>
   have h3:=dS h2
   simp only[atI]at h3
   simp at h3
   refine⟨a.toNat,by omega,(b-1).toNat,by omega,?_⟩
   rw[show ((a.toNat:Nat):Int)=a by omega,show (((b-1).toNat:Nat):Int)=b-1 by omega,show b-1+1=b by omega]
theorem Tak (n:Nat):(zZ n).length=6*n:=by
 unfold zZ
 rw[List.length_flatMap]
 simp[List.map_const']
 omega
theorem Rag (n:Nat):Aa6 (zZ n):=by
 unfold Aa6 zZ
 rw[List.pairwise_flatMap]
 refine⟨fun k hk=>?_,?_⟩
 ·rw[List.pairwise_map]
  refine List.pairwise_lt_range.imp fun {a b} hab=>?_
  rw[uN]
  simp[atI]
  omega
 ·refine List.pairwise_lt_range.imp fun {a b} hab=>?_
  intro x hx y hy
  obtain⟨i,hi,rfl⟩:=List.mem_map.1 hx
  obtain⟨j,hj,rfl⟩:=List.mem_map.1 hy
  rw[uN]
  simp[atI]
  omega
theorem vI {α:Type}[DecidableEq α]:∀ {l m:List α},l.Nodup->(∀ x∈l,x∈m)->l.length<=m.length
 |[],_,_,_=>Sb5 _
 | x :: l, m, hn, hs => by
  rw[List.nodup_cons]at hn
  have hx:=hs x Qb7
  have:=vI (l:=l) (m:=m.erase x) hn.2 fun y hy=>by
   have hne:y≠x:=fun e=>hn.1 (by rw[<- e];exact hy)
   exact (List.mem_erase_of_ne hne).2 (hs y (Qb2 _ hy))
  have h1:=List.length_erase_of_mem hx
  have h2:=List.length_pos_of_mem hx
  simp only[Qbt]
  omega
theorem Ga7 {n:Int}{l:List (List Int)}(hg:bD n=true)(hn:l.Nodup)(h:∀ y∈l,sQ n y):l.length<=30:=by
 have h1:=aY hg
 have e:((n.toNat:Nat):Int)=n:=by omega
 have:=vI hn (m:=zZ n.toNat) fun y hy=>Jaj.2 (by rw[e];exact h y hy)
 rw[Tak]at this
 omega
def Abc (k:Int)(m:Nat):List (List Int):=(Ubc m).map fun i:Nat=>[k,(i:Int)+1]
def Hbj (deps:List Int)(m:Nat):List (List Int):=(Ubc m).flatMap fun k:Nat=>Abc k (atI deps (k:Int)).toNat
def Gan (t:aR)(x:List Int):List (List Int):=Hbj (Caf t (atI x 0) (atI x 1)).attr.deps (Caf t (atI x 0) (atI x 1)).attr.deps.length
theorem Qaa {deps:List Int}{m:Nat}{y:List Int}:y∈Hbj deps m↔∃ k i:Nat,k<m/\(i:Int)<atI deps (k:Int)/\y=[(k:Int),(i:Int)+1]:=by
 unfold Hbj Abc
 simp only[List.mem_flatMap,Ubd,List.mem_map]
 constructor
 ·rintro⟨k,hk,i,hi,rfl⟩
  exact⟨k,i,hk,by omega,rfl⟩
 ·rintro⟨k,i,hk,hi,rfl⟩
  exact⟨k,hk,i,by omega,rfl⟩
theorem Wae {t:aR}(ht:eQ t=true){x y:List Int}(hx:sQ t.n x)(hy:y∈Gan t x):sQ t.n y:=by
 unfold Gan at hy
 obtain⟨k,i,hk,hi,rfl⟩:=Qaa.1 hy
 have h1:=Xak ht hx.2
 have h2:=Va7 (Xaj ht hx.2) (gB ht) _ (at_mem hk)
 refine⟨rfl,?_⟩
 simp only[atI,inst,inR,Qbq,decide_eq_true_eq]at h2 ⊢
 simp only[atI]at hi
 simp
 omega
theorem Qaz {t:aR}{x y:List Int}(hx:x.length=2):y∈Nba t (atI x 0) (atI x 1)↔y∈Gan t x/\y≠x:=by
 unfold Nba Gan
 rw[Ebx,Qaa]
 match x,hx with
 | [a, b], _ =>
  constructor
  ·rintro⟨k,i,h1,h2,h3,rfl⟩
   refine⟨⟨k,i,h1,h2,rfl⟩,fun e=>h3 ?_⟩
   simp only[List.cons.injEq,and_true]at e
   exact e
  ·rintro⟨⟨k,i,h1,h2,rfl⟩,hne⟩
   refine⟨k,i,h1,h2,fun e=>hne ?_,rfl⟩
   have e1:(k:Int)=a:=e.1
   have e2:(i:Int)+1=b:=e.2
   rw[e1,e2]
def Ua6 (t:aR)(y:List Int):Bool:=(Caf t (atI y 0) (atI y 1)).state==3
inductive Rah (t:aR) (x:List Int):List Int->Prop
 |base:Rah t x x
 |step {z y:List Int} (h:Rah t x z) (hc:Ua6 t z=true) (hy:y∈Gan t z):Rah t x y
theorem Rah.inst {t:aR}(ht:eQ t=true){x y:List Int}(hx:sQ t.n x)(h:Rah t x y):sQ t.n y:=by
 induction h with
 |base=>exact hx
 |step _ _ hy ih=>exact Wae ht ih hy
open Classical in
noncomputable def Laj (t:aR)(x:List Int):List (List Int):=(zZ t.n.toNat).filter fun y=>decide (Rah t x y/\Ua6 t y=false)
theorem Jae (t:aR)(x:List Int):Aa6 (Laj t x):=by
 unfold Laj
 exact (Rag _).filter _
open Classical in
theorem Lai {t:aR}(ht:eQ t=true){x y:List Int}(hx:sQ t.n x):y∈Laj t x↔Rah t x y/\Ua6 t y=false:=by
 have h1:=aY (gB ht)
 have e:((t.n.toNat:Nat):Int)=t.n:=by omega
 unfold Laj
 rw[List.mem_filter,decide_eq_true_eq,Jaj,e]
 exact⟨fun h=>h.2,fun h=>⟨h.1.inst ht hx,h⟩⟩
theorem Saa {l:List (List Int)}(h:Aa6 l):l.Nodup:=by
 unfold Aa6 at h
 refine h.imp fun {a b} hab e=>?_
 subst e
 have:=uN.1 hab
 omega
structure BSt where
 met:List (List Int)
 out:List (List Int)
 wait:List (List Int)
def Lak (t:aR)(s:BSt)(y:List Int):BSt:=if s.met.any (fun z=>decide (y=z)) then s else if Ua6 t y then ⟨s.met++[y],s.out,s.wait++[y]⟩ else ⟨s.met++[y],s.out++[y],s.wait⟩
def Nbc (t:aR)(s:BSt):BSt:=let r:=(Gan t (atI s.wait 0)).foldl (Lak t) s;⟨r.met,r.out,r.wait.drop 1⟩
structure BPre (t:aR) (x:List Int) (s:BSt):Prop where
 base:x∈s.met
 nd:s.met.Nodup
 rch:∀ y∈s.met,Rah t x y
 out:∀ y,y∈s.out↔y∈s.met/\Ua6 t y=false
 ond:s.out.Nodup
 wm:∀ y∈s.wait,y∈s.met/\Ua6 t y=true
structure BInv (t:aR) (x:List Int) (s:BSt):Prop extends BPre t x s where
 cl:∀ z∈s.met,Ua6 t z=true->z∈s.wait\/∀ y∈Gan t z,y∈s.met
theorem Oaa {l:List (List Int)}{y:List Int}:(l.any fun z=>decide (y=z))=true↔y∈l:=by
 rw[Tbz]
 constructor
 ·rintro⟨z,h1,h2⟩
  rw[of_decide_eq_true h2];exact h1
 ·exact fun h=>⟨y,h,by simp⟩
theorem Na9 {l:List (List Int)}{y:List Int}(h:y∉l):(l.any fun z=>decide (y=z))=false:=by
 cases e:l.any fun z=>decide (y=z) with
 |false=>rfl
 |true=>exact absurd (Oaa.1 e) h
theorem Aao {l:List (List Int)}{y:List Int}(h:l.Nodup)(hy:y∉l):(l++[y]).Nodup:=by
 rw[List.nodup_append]
 refine⟨h,by simp,fun a ha b hb e=>?_⟩
 rw[List.mem_singleton.1 hb]at e
 exact hy (e▸ha)
theorem Bbk {t:aR}{x:List Int}{s:BSt}(h:BPre t x s){y:List Int}(hy:Rah t x y) :
  BPre t x (Lak t s y)/\y∈(Lak t s y).met/\(∀ z∈s.met,z∈(Lak t s y).met)/\(∃ w,(Lak t s y).wait=s.wait++w)/\(∀ z∈(Lak t s y).met,Ua6 t z=true->z∈(Lak t s y).wait\/z∈s.met) /\
   (Lak t s y).wait.length+s.met.length<=s.wait.length+(Lak t s y).met.length:=by
 unfold Lak
 by_cases hm:y∈s.met
 ·rw[Oaa.2 hm,if_pos rfl]
  exact⟨h,hm,fun z hz=>hz,⟨[],by simp⟩,fun z hz _=>.inr hz,Qbw _⟩
 ·rw[Na9 hm]
  simp only[Qbr,if_false]
  have hmem:∀ z,z∈s.met++[y]↔z∈s.met\/z=y:=fun z=>by simp
  cases hc:Ua6 t y with
  | true =>
   simp only[if_true]
   refine⟨⟨Qbv _ h.base,Aao h.nd hm,fun z hz=>?_,fun z=>?_,h.ond,fun z hz=>?_⟩,by simp,fun z hz=>Qbv _ hz,⟨[y],rfl⟩,fun z hz _=>?_,by simp<;>omega⟩
   ·rcases (hmem z).1 hz with hz|rfl
    ·exact h.rch z hz
    ·exact hy
   ·rw[h.out,hmem]
    constructor
    ·exact fun ⟨h1,h2⟩=>⟨.inl h1,h2⟩
    ·rintro⟨h1|rfl,h2⟩
     ·exact⟨h1,h2⟩
     ·rw[hc]at h2;cases h2
   ·rcases List.mem_append.1 hz with hz|hz
    ·exact⟨Qbv _ (h.wm z hz).1,(h.wm z hz).2⟩
    ·rw[List.mem_singleton.1 hz]
     exact⟨by simp,hc⟩
   ·rcases (hmem z).1 hz with hz|rfl
    ·exact .inr hz
    ·exact .inl (by simp)
  | false =>
   simp only[Qbr,if_false]
   refine⟨⟨Qbv _ h.base,Aao h.nd hm,fun z hz=>?_,fun z=>?_,Aao h.ond (fun hz=>hm ((h.out y).1 hz).1),fun z hz=>?_⟩,by simp,fun z hz=>Qbv _ hz,⟨[],by simp⟩,fun z hz hcz=>?_,by simp<;>omega⟩
   ·rcases (hmem z).1 hz with hz|rfl
    ·exact h.rch z hz
    ·exact hy
   ·rw[Sbt,h.out,hmem,Qb6]
    constructor
    ·rintro (⟨h1,h2⟩|rfl)
     ·exact⟨.inl h1,h2⟩
     ·exact⟨.inr rfl,hc⟩
    ·rintro⟨h1|rfl,h2⟩
     ·exact .inl ⟨h1,h2⟩
     ·exact .inr rfl
   ·exact⟨Qbv _ (h.wm z hz).1,(h.wm z hz).2⟩
   ·rcases (hmem z).1 hz with hz|rfl
    ·exact .inr hz
    ·rw[hc]at hcz;cases hcz
theorem Rab {t:aR}{x:List Int}:∀ {ys:List (List Int)} {s:BSt},BPre t x s->(∀ y∈ys,Rah t x y) ->
  BPre t x (ys.foldl (Lak t) s)/\(∀ y∈ys,y∈(ys.foldl (Lak t) s).met)/\(∀ z∈s.met,z∈(ys.foldl (Lak t) s).met)/\(∃ w,(ys.foldl (Lak t) s).wait=s.wait++w)/\(∀ z∈(ys.foldl (Lak t) s).met,Ua6 t z=true->z∈(ys.foldl (Lak t) s).wait\/z∈s.met) /\
   (ys.foldl (Lak t) s).wait.length+s.met.length<=s.wait.length+(ys.foldl (Lak t) s).met.length
 |[],s,h,_=>⟨h,by simp,fun z hz=>hz,⟨[],by simp⟩,fun z hz _=>.inr hz,Qbw _⟩
 | y :: ys, s, h, hr => by
  obtain⟨h1,h2,h3,⟨w,h4⟩,h5,h6⟩:=Bbk h (hr y Qb7)
  obtain⟨k1,k2,k3,⟨w',k4⟩,k5,k6⟩:=Rab (ys:=ys) h1 fun z hz=>hr z (Qb2 _ hz)
  rw[Sby]
  refine⟨k1,fun z hz=>?_,fun z hz=>k3 z (h3 z hz),⟨w++w',by rw[k4,h4,Qb1]⟩,fun z hz hc=>?_,by omega⟩
  ·rcases List.mem_cons.1 hz with rfl|hz
   ·exact k3 _ h2
   ·exact k2 z hz
  ·rcases k5 z hz hc with h7|h7
   ·exact .inl h7
   ·rcases h5 z h7 hc with h8|h8
    ·exact .inl (by rw[k4];exact Qbv _ h8)
    ·exact .inr h8
theorem BInv.step {t:aR}{x:List Int}{s:BSt}(h:BInv t x s)(hw:s.wait≠[]):BInv t x (Nbc t s)/\(Nbc t s).wait.length+s.met.length<s.wait.length+(Nbc t s).met.length:=by
 obtain⟨z,w,e⟩:∃ z w,s.wait=z::w:=by
  cases hs:s.wait with
  |nil=>exact absurd hs hw
  |cons z w=>exact⟨z,w,rfl⟩
 have hz0:atI s.wait 0=z:=by rw[e];rfl
 obtain⟨hzm,hzc⟩:=h.wm z (by rw[e];exact Qb7)
 have hr:∀ y∈Gan t z,Rah t x y:=fun y hy=>.step (h.rch z hzm) hzc hy
 obtain⟨k1,k2,k3,⟨w',k4⟩,k5,k6⟩:=Rab (ys:=Gan t z) h.toBPre hr
 have k4':((Gan t z).foldl (Lak t) s).wait.drop 1=w++w':=by rw[k4,e];rfl
 unfold Nbc
 rw[hz0]
 dsimp only
 refine⟨⟨⟨k1.base,k1.nd,k1.rch,k1.out,k1.ond,fun y hy=>k1.wm y (Sbo hy)⟩,fun y hy hc=>?_⟩,?_⟩
 ·dsimp only at hy ⊢
  by_cases hyz:y=z
  ·subst hyz
   exact .inr k2
  ·rw[k4']
   rcases k5 y hy hc with h1|h1
   ·rw[k4,e]at h1
    rcases List.mem_append.1 h1 with h1|h1
    ·rcases List.mem_cons.1 h1 with h1|h1
     ·exact absurd h1 hyz
     ·exact .inl (Qbv _ h1)
    ·exact .inl (Qby _ h1)
   ·rcases h.cl y h1 hc with h2|h2
    ·rw[e]at h2
     rcases List.mem_cons.1 h2 with h2|h2
     ·exact absurd h2 hyz
     ·exact .inl (Qbv _ h2)
    ·exact .inr fun u hu=>k3 u (h2 u hu)
 ·have:0<((Gan t z).foldl (Lak t) s).wait.length:=by rw[k4,e];simp<;>omega
  rw[Rbn]
  omega
theorem BInv.done {t:aR}(ht:eQ t=true){x:List Int}(hx:sQ t.n x){s:BSt}(h:BInv t x s)(hw:s.wait=[]):(Ra9 id (s.out.map prL)).map toL=Laj t x:=by
 have hall:∀ y,Rah t x y->y∈s.met:=by
  intro y hy
  induction hy with
  |base=>exact h.base
  | step _ hc hy ih =>
   rcases h.cl _ ih hc with h1|h1
   ·rw[hw]at h1;cases h1
   ·exact h1 _ hy
 obtain⟨h1,h2⟩:=Ra8 (l:=s.out) (fun y hy=>((h.rch y ((h.out y).1 hy).1).inst ht hx).1) h.ond
 refine Ha2 h1 (Jae t x) fun y=>?_
 rw[h2,h.out,Lai ht hx]
 exact⟨fun ⟨h3,h4⟩=>⟨h.rch y h3,h4⟩,fun ⟨h3,h4⟩=>⟨hall y h3,h4⟩⟩
theorem BPre.len {t:aR}(ht:eQ t=true){x:List Int}(hx:sQ t.n x){s:BSt}(h:BPre t x s):s.met.length<=30/\s.out.length<=30:=by
 have h1:=Ga7 (gB ht) h.nd fun y hy=>(h.rch y hy).inst ht hx
 have h2:=Ga7 (gB ht) h.ond fun y hy=>(h.rch y ((h.out y).1 hy).1).inst ht hx
 exact⟨h1,h2⟩
def gtL (y x:List Int):Bool:=decide (atI x 0<atI y 0)||((atI y 0==atI x 0)&&decide (atI x 1<atI y 1))
def Ga8 (l:List (List Int))(x:List Int):Nat->Nat
 |0=>0
 |k+1=>if gtL (atI l (k:Int)) x then Ga8 l x k else k+1
def Lb7 (l:List (List Int))(x:List Int):List (List Int):=l.take (Ga8 l x l.length)++[x]++l.drop (Ga8 l x l.length)
theorem Aba (l:List (List Int))(x:List Int):∀ m,Ga8 l x m<=m
 |0=>Qbw _
 | m + 1 => by
  unfold Ga8
  split
  ·exact Nat.le_succ_of_le (Aba l x m)
  ·exact Qbw _
theorem Abb {l:List (List Int)}{x:List Int}:∀ {m j:Nat},Ga8 l x m<=j->j<m->gtL (atI l (j:Int)) x=true
 |0,j,_,h=>by omega
 | m + 1, j, h, hj => by
  unfold Ga8 at h
  split at h
  ·rename_i hg
   rcases Rbj j m with h1|h1
   ·exact Abb h h1
   ·obtain rfl:j=m:=by omega
    exact hg
  ·omega
theorem Za9 {l:List (List Int)}{x:List Int}:∀ {m:Nat},0<Ga8 l x m->gtL (atI l ((Ga8 l x m-1:Nat):Int)) x=false
 |0,h=>by simp[Ga8]at h
 | m + 1, h => by
  unfold Ga8 at h ⊢
  split
  ·rename_i hg
   rw[if_pos hg]at h
   exact Za9 h
  ·rename_i hg
   simpa using hg
theorem Abf {y x:List Int}:gtL y x=true↔ltL x y:=by
 rw[uN]
 unfold gtL
 simp only[Rbw,Qbq,decide_eq_true_eq,beq_iff_eq]
 omega
theorem Nas {l:List (List Int)}{x y:List Int}:y∈Lb7 l x↔y∈l\/y=x:=by
 unfold Lb7
 have e:∀ k,y∈l.take k++[x]++l.drop k↔y∈l\/y=x:=by
  intro k
  have h:=Sbu k l
  rw[Qb1,Sbt,Sbt,Qb6]
  constructor
  ·rintro (h1|h1|h1)
   ·exact .inl (List.mem_of_mem_take h1)
   ·exact .inr h1
   ·exact .inl (Sbo h1)
  ·rintro (h1|h1)
   ·rw[<- h]at h1
    rcases List.mem_append.1 h1 with h1|h1
    ·exact .inl h1
    ·exact .inr (.inr h1)
   ·exact .inr (.inl h1)
 exact e _
theorem Za8 {l:List (List Int)}{x:List Int}(h:Aa6 l)(h2:∀ y∈l,y.length=2)(hx2:x.length=2)(hx:x∉l):Aa6 (Lb7 l x):=by
 have hk:=Aba l x l.length
 have hsp:=Sbu (Ga8 l x l.length) l
 have hlo:∀ y∈l.take (Ga8 l x l.length),ltL y x:=by
  intro y hy
  obtain⟨j,hj⟩:=List.mem_iff_getElem?.1 hy
  have hjl:j<Ga8 l x l.length:=by
   have:=(List.getElem?_eq_some_iff.1 hj).1
   rw[Qb9]at this
   omega
  rw[List.getElem?_take,if_pos hjl]at hj
  have hlast:=Za9 (l:=l) (x:=x) (m:=l.length) (by omega)
  have hll:Ga8 l x l.length-1<l.length:=by omega
  rw[cK hll]at hlast
  have hnl:¬ ltL x l[Ga8 l x l.length-1]:=fun e=>by rw[<- Abf,hlast]at e;cases e
  have hne:l[Ga8 l x l.length-1]≠x:=fun e=>hx (e▸Tbc hll)
  have hlt2:ltL l[Ga8 l x l.length-1] x:=by
   rw[uN]at hnl ⊢
   have hl2:=h2 _ (Tbc hll)
   generalize l[Ga8 l x l.length-1]=z at hnl hne hl2 ⊢
   have hz:¬ (atI z 0=atI x 0/\atI z 1=atI x 1):=by
    rintro⟨e1,e2⟩
    match z,x,hl2,hx2 with
    | [a, b], [c, d], _, _ =>
     have e1':a=c:=e1
     have e2':b=d:=e2
     exact hne (by rw[e1',e2'])
   omega
  rcases Rbj j (Ga8 l x l.length-1) with h1|h1
  ·unfold Aa6 at h
   rw[List.pairwise_iff_getElem]at h
   have hjl2:j<l.length:=by omega
   have h3:=h j (Ga8 l x l.length-1) hjl2 hll h1
   rw[(List.getElem?_eq_some_iff.1 hj).2]at h3
   rw[uN]at h3 hlt2 ⊢
   omega
  ·have e:j=Ga8 l x l.length-1:=by omega
   subst e
   rw[(List.getElem?_eq_some_iff.1 hj).2]at hlt2
   exact hlt2
 have hhi:∀ y∈l.drop (Ga8 l x l.length),ltL x y:=by
  intro y hy
  obtain⟨j,hj⟩:=List.mem_iff_getElem?.1 hy
  rw[List.getElem?_drop]at hj
  have hjl:=(List.getElem?_eq_some_iff.1 hj).1
  have:=Abb (l:=l) (x:=x) (m:=l.length) (j:=Ga8 l x l.length+j) (by omega) hjl
  rw[cK hjl,(List.getElem?_eq_some_iff.1 hj).2]at this
  exact Abf.1 this
 unfold Lb7 Aa6
 unfold Aa6 at h
 rw[<- hsp,List.pairwise_append]at h
 rw[Qb1,List.pairwise_append]
 refine⟨h.1,?_,fun a ha b hb=>?_⟩
 ·rw[List.singleton_append,Tbo]
  exact⟨hhi,h.2.1⟩
 ·rcases List.mem_append.1 hb with hb|hb
  ·rw[List.mem_singleton.1 hb]
   exact hlo a ha
  ·exact h.2.2 a ha b hb
structure SSt where
 met:List (List Int)
 out:List (List Int)
def Wa7 (t:aR)(s:SSt)(y:List Int):SSt:=if s.met.any (fun z=>decide (y=z))||s.out.any (fun z=>decide (y=z)) then s else if Ua6 t y then ⟨s.met++[y],s.out⟩ else ⟨s.met,Lb7 s.out y⟩
def Pbp (t:aR)(s:SSt)(i:Nat):SSt:=(Nba t (atI (atI s.met (i:Int)) 0) (atI (atI s.met (i:Int)) 1)).foldl (Wa7 t) s
structure SPre (t:aR) (x:List Int) (s:SSt):Prop where
 base:x∈s.met
 nd:s.met.Nodup
 rch:∀ y∈s.met,Rah t x y/\Ua6 t y=true
 och:∀ y∈s.out,Rah t x y/\Ua6 t y=false
 srt:Aa6 s.out
structure Mbf (t:aR) (x:List Int) (i:Nat) (s:SSt):Prop extends SPre t x s where
 le:i<=s.met.length
 cl:∀ j,j<i->∀ y∈Gan t (atI s.met (j:Int)),y∈s.met\/y∈s.out
theorem Xax {t:aR}(ht:eQ t=true){x:List Int}(hx:sQ t.n x){s:SSt}(h:SPre t x s){y:List Int}(hy:Rah t x y) :
  SPre t x (Wa7 t s y)/\(y∈(Wa7 t s y).met\/y∈(Wa7 t s y).out)/\(∃ m,(Wa7 t s y).met=s.met++m)/\(∀ z∈s.out,z∈(Wa7 t s y).out):=by
 unfold Wa7
 by_cases hm:y∈s.met
 ·rw[Oaa.2 hm,Sbw,if_pos rfl]
  exact⟨h,.inl hm,⟨[],by simp⟩,fun z hz=>hz⟩
 ·by_cases ho:y∈s.out
  ·rw[Oaa.2 ho,Sb3,if_pos rfl]
   exact⟨h,.inr ho,⟨[],by simp⟩,fun z hz=>hz⟩
  ·rw[Na9 hm,Na9 ho]
   simp only[Bool.or_false,Qbr,if_false]
   cases hc:Ua6 t y with
   | true =>
    simp only[if_true]
    refine⟨⟨Qbv _ h.base,Aao h.nd hm,fun z hz=>?_,h.och,h.srt⟩,.inl (by simp),⟨[y],rfl⟩,fun z hz=>hz⟩
    rcases List.mem_append.1 hz with hz|hz
    ·exact h.rch z hz
    ·rw[List.mem_singleton.1 hz];exact⟨hy,hc⟩
   | false =>
    simp only[Qbr,if_false]
    refine⟨⟨h.base,h.nd,h.rch,fun z hz=>?_,Za8 h.srt (fun z hz=>((h.och z hz).1.inst ht hx).1) (hy.inst ht hx).1 ho⟩,.inr (Nas.2 (.inr rfl)),⟨[],by simp⟩,fun z hz=>Nas.2 (.inl hz)⟩
    rcases Nas.1 hz with hz|rfl
    ·exact h.och z hz
    ·exact⟨hy,hc⟩
theorem Oa7 {t:aR}(ht:eQ t=true){x:List Int}(hx:sQ t.n x):∀ {ys:List (List Int)} {s:SSt},SPre t x s->(∀ y∈ys,Rah t x y) ->
  SPre t x (ys.foldl (Wa7 t) s)/\(∀ y∈ys,y∈(ys.foldl (Wa7 t) s).met\/y∈(ys.foldl (Wa7 t) s).out)/\(∃ m,(ys.foldl (Wa7 t) s).met=s.met++m)/\(∀ z∈s.out,z∈(ys.foldl (Wa7 t) s).out)
 |[],s,h,_=>⟨h,by simp,⟨[],by simp⟩,fun z hz=>hz⟩
 | y :: ys, s, h, hr => by
  obtain⟨h1,h2,⟨m,h3⟩,h4⟩:=Xax ht hx h (hr y Qb7)
  obtain⟨k1,k2,⟨m',k3⟩,k4⟩:=Oa7 ht hx (ys:=ys) h1 fun z hz=>hr z (Qb2 _ hz)
  rw[Sby]
  refine⟨k1,fun z hz=>?_,⟨m++m',by rw[k3,h3,Qb1]⟩,fun z hz=>k4 z (h4 z hz)⟩
  rcases List.mem_cons.1 hz with rfl|hz
  ·rcases h2 with h2|h2
   ·exact .inl (by rw[k3];exact Qbv _ h2)
   ·exact .inr (k4 _ h2)
  ·exact k2 z hz
theorem Eb9 {α:Type}[Inhabited α]{l m:List α}{j:Nat}(h:j<l.length):atI (l++m) (j:Int)=atI l (j:Int):=by
 rw[cK h,cK (by rw[Qbs];omega),List.getElem_append_left h]
theorem Mbf.step {t:aR}(ht:eQ t=true){x:List Int}(hx:sQ t.n x){i:Nat}{s:SSt}(h:Mbf t x i s)(hi:i<s.met.length):Mbf t x (i+1) (Pbp t s i):=by
 have hzm:=at_mem hi
 obtain⟨hzr,hzc⟩:=h.rch _ hzm
 have hz2:=(hzr.inst ht hx).1
 unfold Pbp
 obtain⟨k1,k2,⟨m,k3⟩,k4⟩:=Oa7 ht hx (ys:=Nba t (atI (atI s.met (i:Int)) 0) (atI (atI s.met (i:Int)) 1)) h.toSPre fun y hy=>.step hzr hzc ((Qaz hz2).1 hy).1
 refine⟨k1,by rw[k3,Qbs];omega,fun j hj y hy=>?_⟩
 have hjl:j<s.met.length:=by omega
 rw[k3,Eb9 hjl]at hy
 rcases Rbj j i with hji|hji
 ·rcases h.cl j hji y hy with h1|h1
  ·exact .inl (by rw[k3];exact Qbv _ h1)
  ·exact .inr (k4 y h1)
 ·obtain rfl:j=i:=by omega
  by_cases e:y=atI s.met (j:Int)
  ·exact .inl (by rw[k3,e];exact Qbv _ hzm)
  ·exact k2 y ((Qaz hz2).2 ⟨hy,e⟩)
theorem Mbf.done {t:aR}(ht:eQ t=true){x:List Int}(hx:sQ t.n x){s:SSt}(h:Mbf t x s.met.length s):s.out=Laj t x:=by
 have hall:∀ y,Rah t x y->y∈s.met\/y∈s.out:=by
  intro y hy
  induction hy with
  |base=>exact .inl h.base
  | step _ hc hy ih =>
   rcases ih with h1|h1
   ·obtain⟨j,hj,e⟩:=List.mem_iff_getElem.1 h1
    refine h.cl j hj _ ?_
    rw[cK hj,e]
    exact hy
   ·rw[(h.och _ h1).2]at hc;cases hc
 refine Ha2 h.srt (Jae t x) fun y=>?_
 rw[Lai ht hx]
 refine⟨h.och y,fun ⟨h1,h2⟩=>?_⟩
 rcases hall y h1 with h3|h3
 ·rw[(h.rch y h3).2]at h2;cases h2
 ·exact h3
theorem SPre.len {t:aR}(ht:eQ t=true){x:List Int}(hx:sQ t.n x){s:SSt}(h:SPre t x s):s.met.length<=30/\s.out.length<=30:=by
 have h1:=Ga7 (gB ht) h.nd fun y hy=>(h.rch y hy).1.inst ht hx
 have h2:=Ga7 (gB ht) (Saa h.srt) fun y hy=>(h.och y hy).1.inst ht hx
 exact⟨h1,h2⟩
end Go.Proofs.YtdpfilpckndhcaaGreatDoor.Rf

namespace Go.Proofs.YtdpfilpckndhcaaGreatDoor.Rf
set_option linter.unusedVariables false
set_option linter.unusedSimpArgs false
end Go.Proofs.YtdpfilpckndhcaaGreatDoor.Rf

namespace Go.Proofs.YtdpfilpckndhcaaGreatDoor.Rf
set_option linter.unusedVariables false
set_option linter.unusedSimpArgs false
def GOk (G:List (List Int)):Prop:=∀ r∈G,∀ x∈r,InB G x
inductive Rch (G:List (List Int)) (a:Int):Int->Prop
 |refl:Rch G a a
 |step {b c:Int}:Rch G a b->c∈atI G b->Rch G a c
theorem GOk.out {G:List (List Int)}(hg:GOk G){b c:Int}(hb:InB G b)(hc:c∈atI G b):InB G c:=hg _ (dG hb) c hc
theorem Rch.inb {G:List (List Int)}(hg:GOk G){a b:Int}(ha:InB G a)(h:Rch G a b):InB G b:=by
 induction h with
 |refl=>exact ha
 |step _ hc ih=>exact hg.out ih hc
theorem Rch.trans {G:List (List Int)}{a b c:Int}(h:Rch G a b)(h2:Rch G b c):Rch G a c:=by
 induction h2 with
 |refl=>exact h
 |step _ hc ih=>exact .step ih hc
def nums (n:Nat):List Int:=(Ubc n).map fun k:Nat=>(k:Int)
theorem Uag (n:Nat):(nums n).length=n:=by simp[nums]
theorem Ga3 {n:Nat}{x:Int}:x∈nums n↔0<=x/\x<n:=by
 unfold nums
 rw[List.mem_map]
 constructor
 ·rintro⟨k,hk,rfl⟩
  rw[Ubd]at hk
  omega
 ·rintro⟨h1,h2⟩
  exact⟨x.toNat,List.mem_range.2 (by omega),by omega⟩
theorem Sam (n:Nat):pI (nums n):=by
 unfold nums pI
 rw[List.pairwise_map]
 exact List.pairwise_lt_range.imp fun {a b} h=>by omega
theorem Faw {l:List Int}(h:pI l):l.Nodup:=by
 unfold pI at h
 exact h.imp fun {a b} hab e=>by omega
open Classical in
noncomputable def Lbq (G:List (List Int))(a j:Int):Bool:=decide (Rch G a j)
theorem Ma6 {G:List (List Int)}{a j:Int}:Lbq G a j=true↔Rch G a j:=by
 classical
 unfold Lbq
 exact decide_eq_true_iff
noncomputable def Va8 (G:List (List Int))(a:Int):List Int:=(nums G.length).filter (Lbq G a)
theorem Bau (G:List (List Int))(a:Int):pI (Va8 G a):=by
 unfold Va8 pI
 exact List.Pairwise.filter _ (Sam _)
theorem wL {G:List (List Int)}(hg:GOk G){a j:Int}(ha:InB G a):j∈Va8 G a↔Rch G a j:=by
 unfold Va8
 rw[List.mem_filter,Ma6,Ga3]
 exact⟨fun h=>h.2,fun h=>⟨h.inb hg ha,h⟩⟩
structure GSt where
 marks:List Bool
 todo:List Int
def GSt.left (s:GSt):Nat:=s.todo.length+s.marks.countP fun b=>!b
def gI (s:GSt)(c:Int):GSt:=if atI s.marks c then s else ⟨cZ s.marks c true,s.todo++[c]⟩
def gO (G:List (List Int))(s:GSt):GSt:=⟨((atI G (atI s.todo 0)).foldl gI s).marks,((atI G (atI s.todo 0)).foldl gI s).todo.drop 1⟩
structure GPre (G:List (List Int)) (a:Int) (s:GSt):Prop where
 len:s.marks.length=G.length
 rch:∀ j,InB G j->atI s.marks j=true->Rch G a j
 sta:InB G a
 st:atI s.marks a=true
 tm:∀ x∈s.todo,InB G x/\atI s.marks x=true
 cnt:s.left<=G.length
structure GInv (G:List (List Int)) (a:Int) (s:GSt):Prop extends GPre G a s where
 cl:∀ j,InB G j->atI s.marks j=true->j∉s.todo->∀ c∈atI G j,atI s.marks c=true
theorem vB {α:Type}[Inhabited α]{xs:List α}{j k:Int}{x:α}(hj:0<=j)(hk:0<=k)(h:j≠k):atI (cZ xs k x) j=atI xs j:=by
 have:k.toNat≠j.toNat:=by omega
 unfold atI cZ
 rw[Qb5,Qb5,List.getElem?_set_ne this]
theorem yK {α:Type}[Inhabited α]{xs:List α}{k:Int}{x:α}(h:InB xs k):atI (cZ xs k x) k=x:=fU.1 h
theorem Ia6:∀ {l:List Bool} {i:Nat},i<l.length->l.getD i default=false->(l.set i true).countP (fun b=>!b)+1=l.countP fun b=>!b
 |[],i,h,_=>by simp at h
 | b :: l, 0, _, h => by
  have hb:b=false:=h
  subst hb
  simp
 | b :: l, i + 1, h, h2 => by
  have:=Ia6 (l:=l) (i:=i) (by simpa using h) h2
  simp only[List.set_cons_succ,List.countP_cons]
  omega
theorem Hbq {G:List (List Int)}{a:Int}{s:GSt}(h:GPre G a s){c:Int}(hc:InB G c)(hr:Rch G a c) :
  GPre G a (gI s c)/\(∀ j,InB G j->atI s.marks j=true->atI (gI s c).marks j=true)/\atI (gI s c).marks c=true/\(∃ w,(gI s c).todo=s.todo++w)/\(∀ j,InB G j->atI (gI s c).marks j=true->atI s.marks j=true\/j∈(gI s c).todo)/\(gI s c).left=s.left:=by
 unfold gI
 cases hm:atI s.marks c with
 |true=>exact⟨h,fun _ _ hj=>hj,hm,⟨[],by simp⟩,fun _ _ hj=>.inl hj,rfl⟩
 | false =>
  have hcm:InB s.marks c:=by unfold InB at hc ⊢;rw[h.len];exact hc
  have hmono:∀ j,InB G j->atI s.marks j=true->atI (cZ s.marks c true) j=true:=by
   intro j hj hj2
   by_cases e:j=c
   ·subst e;exact yK hcm
   ·rw[vB hj.1 hc.1 e];exact hj2
  have hcnt:GSt.left ⟨cZ s.marks c true,s.todo++[c]⟩=s.left:=by
   unfold GSt.left cZ
   have:=Ia6 (l:=s.marks) (i:=c.toNat) hcm.lt hm
   simp only[Qbs,Qbt,Qbu]
   omega
  simp only[Qbr,if_false]
  refine⟨⟨by dsimp only;rw[dR];exact h.len,fun j hj hj2=>?_,h.sta,hmono a h.sta h.st,fun x hx=>?_,by rw[hcnt];exact h.cnt⟩,hmono,yK hcm,⟨[c],rfl⟩,fun j hj hj2=>?_,hcnt⟩
  ·by_cases e:j=c
   ·subst e;exact hr
   ·dsimp only at hj2
    rw[vB hj.1 hc.1 e]at hj2
    exact h.rch j hj hj2
  ·rcases List.mem_append.1 hx with hx|hx
   ·exact⟨(h.tm x hx).1,hmono x (h.tm x hx).1 (h.tm x hx).2⟩
   ·rw[Qb6]at hx
    subst hx
    exact⟨hc,yK hcm⟩
  ·by_cases e:j=c
   ·subst e;exact .inr (by simp)
   ·try dsimp only at hj2
    rw[vB hj.1 hc.1 e]at hj2
    exact .inl hj2
theorem Abi {G:List (List Int)}{a:Int}:∀ {ys:List Int} {s:GSt},GPre G a s->(∀ c∈ys,InB G c/\Rch G a c) ->
  GPre G a (ys.foldl gI s)/\(∀ j,InB G j->atI s.marks j=true->atI (ys.foldl gI s).marks j=true)/\(∀ c∈ys,atI (ys.foldl gI s).marks c=true)/\(∃ w,(ys.foldl gI s).todo=s.todo++w)/\(∀ j,InB G j->atI (ys.foldl gI s).marks j=true->atI s.marks j=true\/j∈(ys.foldl gI s).todo)/\(ys.foldl gI s).left=s.left
 |[],s,h,_=>⟨h,fun _ _ hj=>hj,fun _ hc=>(by cases hc),⟨[],by simp⟩,fun _ _ hj=>.inl hj,rfl⟩
 | y :: ys, s, h, hy => by
  obtain⟨h1,h2⟩:=hy y Qb7
  obtain⟨k1,k2,k3,⟨w1,k4⟩,k5,k6⟩:=Hbq h h1 h2
  obtain⟨l1,l2,l3,⟨w2,l4⟩,l5,l6⟩:=Abi (ys:=ys) k1 fun c hc=>hy c (Qb2 _ hc)
  rw[Sby]
  refine⟨l1,fun j hj hj2=>l2 j hj (k2 j hj hj2),fun c hc=>?_,⟨w1++w2,by rw[l4,k4,Qb1]⟩,fun j hj hj2=>?_,by rw[l6,k6]⟩
  ·rcases List.mem_cons.1 hc with hc|hc
   ·subst hc;exact l2 c h1 k3
   ·exact l3 c hc
  ·rcases l5 j hj hj2 with h3|h3
   ·rcases k5 j hj h3 with h4|h4
    ·exact .inl h4
    ·exact .inr (by rw[l4];exact Qbv _ h4)
   ·exact .inr h3
theorem GInv.step {G:List (List Int)}(hg:GOk G){a:Int}{s:GSt}(h:GInv G a s)(hw:s.todo≠[]):GInv G a (gO G s)/\(gO G s).left+1=s.left/\GPre G a ((atI G (atI s.todo 0)).foldl gI s):=by
 have hb:InB s.todo 0:=by
  have:=List.length_pos_iff.2 hw
  unfold InB;omega
 obtain⟨z1,z2⟩:=h.tm _ (dG hb)
 have zr:=h.rch _ z1 z2
 have hys:∀ c∈atI G (atI s.todo 0),InB G c/\Rch G a c:=fun c hc=>⟨hg.out z1 hc,.step zr hc⟩
 obtain⟨l1,l2,l3,⟨w,l4⟩,l5,l6⟩:=Abi h.toGPre hys
 obtain⟨t,ht⟩:∃ t,s.todo=atI s.todo 0::t:=by
  cases e:s.todo with
  |nil=>exact absurd e hw
  |cons x t=>exact⟨t,rfl⟩
 unfold gO
 generalize atI s.todo 0=z at *
 generalize (atI G z).foldl gI s=u at *
 rw[ht,Sbk]at l4
 have hleft:GSt.left ⟨u.marks,u.todo.drop 1⟩+1=s.left:=by
  rw[<- l6]
  unfold GSt.left
  rw[l4]
  simp only[List.drop_succ_cons,Sb9,Qbt]
  omega
 refine⟨⟨⟨l1.len,l1.rch,l1.sta,l1.st,fun x hx=>l1.tm x (Sbo hx),by have:=h.cnt;omega⟩,fun j hj hj2 hj3 c hc=>?_⟩,hleft,l1⟩
 dsimp only at hj2 hj3 ⊢
 by_cases e:j=z
 ·subst e
  exact l3 c hc
 ·have hju:j∉u.todo:=by
   rw[l4]at hj3 ⊢
   intro hm
   rcases List.mem_cons.1 hm with h1|h1
   ·exact e h1
   ·exact hj3 (by simpa using h1)
  rcases l5 j hj hj2 with h1|h1
  ·have h2:j∉s.todo:=fun hm=>hju (by
    rw[ht]at hm
    rw[l4]
    rcases List.mem_cons.1 hm with h1|h1
    ·exact absurd h1 e
    ·exact Qb2 _ (Qbv _ h1))
   exact l2 c (hg.out hj hc) (h.cl j hj h1 h2 c hc)
  ·exact absurd h1 hju
theorem GInv.done {G:List (List Int)}(hg:GOk G){a:Int}{s:GSt}(h:GInv G a s)(hw:s.todo=[]){j:Int}(hj:InB G j):atI s.marks j=Lbq G a j:=by
 have hall:∀ b,Rch G a b->InB G b/\atI s.marks b=true:=by
  intro b hb
  induction hb with
  |refl=>exact⟨h.sta,h.st⟩
  |step _ hc ih=>exact⟨hg.out ih.1 hc,h.cl _ ih.1 ih.2 (by rw[hw];simp) _ hc⟩
 rw[Bool.eq_iff_iff,Ma6]
 exact⟨h.rch j hj,fun hr=>(hall j hr).2⟩
structure HSt where
 met:List Int
 que:List Int
def hI (s:HSt)(c:Int):HSt:=if Waf s.que c then s else ⟨Rak s.met c,s.que++[c]⟩
theorem Aat {xs:List Int}{n:Int}:Waf xs n=true↔n∈xs:=by
 unfold Waf
 rw[Tbz]
 constructor
 ·rintro⟨x,hx,e⟩
  rw[<- beq_iff_eq.1 e]
  exact hx
 ·exact fun h=>⟨n,h,by simp⟩
structure HPre (G:List (List Int)) (a:Int) (s:HSt):Prop where
 rch:∀ x∈s.que,Rch G a x
 nd:s.que.Nodup
 srt:pI s.met
 eq:∀ x,x∈s.met↔x∈s.que
 sta:InB G a
 st:a∈s.que
structure Mbh (G:List (List Int)) (a:Int) (i:Nat) (s:HSt):Prop extends HPre G a s where
 le:i<=s.que.length
 cl:∀ k:Nat,k<i->∀ c∈atI G (atI s.que (k:Int)),c∈s.que
theorem HPre.len {G:List (List Int)}(hg:GOk G){a:Int}{s:HSt}(h:HPre G a s):s.que.length<=G.length/\s.met.length<=G.length:=by
 have h1:∀ x∈s.que,x∈nums G.length:=fun x hx=>Ga3.2 ((h.rch x hx).inb hg h.sta)
 have h2:=vI h.nd h1
 have h3:=vI (Faw h.srt) fun x hx=>h1 x ((h.eq x).1 hx)
 rw[Uag]at h2 h3
 exact⟨h2,h3⟩
theorem Hbl {G:List (List Int)}{a:Int}{s:HSt}(h:HPre G a s){c:Int}(hr:Rch G a c):HPre G a (hI s c)/\c∈(hI s c).que/\∃ w,(hI s c).que=s.que++w:=by
 unfold hI
 cases hm:Waf s.que c with
 |true=>exact⟨h,Aat.1 hm,[],by simp⟩
 | false =>
  have hn:c∉s.que:=fun e=>by rw[Aat.2 e]at hm;cases hm
  simp only[Qbr,if_false]
  refine⟨⟨fun x hx=>?_,?_,Ha9 h.srt,fun x=>?_,h.sta,Qbv _ h.st⟩,by simp,[c],rfl⟩
  ·rcases List.mem_append.1 hx with hx|hx
   ·exact h.rch x hx
   ·rw[List.mem_singleton.1 hx];exact hr
  ·exact List.nodup_append.2 ⟨h.nd,by simp,fun x hx y hy e=>hn (by rw[Qb6]at hy;rw[<- hy,<- e];exact hx)⟩
  ·rw[Ma8,h.eq]
   simp
theorem Abe {G:List (List Int)}{a:Int}:∀ {ys:List Int} {s:HSt},HPre G a s->(∀ c∈ys,Rch G a c)->HPre G a (ys.foldl hI s)/\(∀ c∈ys,c∈(ys.foldl hI s).que)/\∃ w,(ys.foldl hI s).que=s.que++w
 |[],s,h,_=>⟨h,fun _ hc=>(by cases hc),[],by simp⟩
 | y :: ys, s, h, hy => by
  obtain⟨k1,k2,w1,k3⟩:=Hbl h (hy y Qb7)
  obtain⟨l1,l2,w2,l3⟩:=Abe (ys:=ys) k1 fun c hc=>hy c (Qb2 _ hc)
  rw[Sby]
  refine⟨l1,fun c hc=>?_,w1++w2,by rw[l3,k3,Qb1]⟩
  rcases List.mem_cons.1 hc with hc|hc
  ·subst hc
   rw[l3]
   exact Qbv _ k2
  ·exact l2 c hc
theorem Mbh.step {G:List (List Int)}{a:Int}{i:Nat}{s:HSt}(h:Mbh G a i s)(hi:i<s.que.length):Mbh G a (i+1) ((atI G (atI s.que (i:Int))).foldl hI s):=by
 have hz:=h.rch _ (at_mem hi)
 obtain⟨l1,l2,w,l3⟩:=Abe h.toHPre (ys:=atI G (atI s.que (i:Int))) fun c hc=>.step hz hc
 generalize he:(atI G (atI s.que (i:Int))).foldl hI s=u at *
 have hat:∀ k:Nat,k<s.que.length->atI u.que (k:Int)=atI s.que (k:Int):=by
  intro k hk
  rw[l3,cK (by rw[Qbs];omega),cK hk,List.getElem_append_left hk]
 refine⟨l1,by rw[l3,Qbs];omega,fun k hk c hc=>?_⟩
 rw[hat k (by omega)]at hc
 rcases Rbj k i with h1|h1
 ·rw[l3]
  exact Qbv _ (h.cl k h1 c hc)
 ·obtain rfl:k=i:=by omega
  exact l2 c hc
theorem Mbh.done {G:List (List Int)}(hg:GOk G){a:Int}{s:HSt}(h:Mbh G a s.que.length s):s.met=Va8 G a:=by
 refine Eaz h.srt (Bau _ _) fun x=>?_
 rw[h.eq,wL hg h.sta]
 refine⟨h.rch x,fun hr=>?_⟩
 induction hr with
 |refl=>exact h.st
 | step _ hc ih =>
  obtain⟨k,hk,e⟩:=List.mem_iff_getElem.1 ih
  exact h.cl k hk _ (by rw[cK hk,e];exact hc)
end Go.Proofs.YtdpfilpckndhcaaGreatDoor.Rf

namespace Go.Proofs.YtdpfilpckndhcaaGreatDoor.Rf
set_option linter.unusedVariables false
set_option linter.unusedSimpArgs false
noncomputable def Wag (G:List (List Int))(a:Int):List Int:=(Va8 G a).filter fun j=>Lbq G j a
theorem tV {G:List (List Int)}(hg:GOk G){a j:Int}(ha:InB G a):j∈Wag G a↔Rch G a j/\Rch G j a:=by
 unfold Wag
 rw[List.mem_filter,Ma6,wL hg ha]
theorem Ian (G:List (List Int))(a:Int):pI (Wag G a):=List.Pairwise.filter _ (Bau G a)
theorem Abg {G:List (List Int)}(hg:GOk G){a:Int}(ha:InB G a):a∈Wag G a:=(tV hg ha).2 ⟨.refl,.refl⟩
theorem Abh {G:List (List Int)}(hg:GOk G){a j:Int}(ha:InB G a)(hj:j∈Wag G a):Wag G j=Wag G a:=by
 obtain⟨h1,h2⟩:=(tV hg ha).1 hj
 refine Eaz (Ian _ _) (Ian _ _) fun x=>?_
 rw[tV hg (h1.inb hg ha),tV hg ha]
 exact⟨fun h=>⟨h1.trans h.1,h.2.trans h2⟩,fun h=>⟨h2.trans h.1,h.2.trans h1⟩⟩
noncomputable def Gag (G:List (List Int)):List (List Int):=((nums G.length).filter fun i=>atI (Wag G i) 0==i).map (Wag G)
theorem Ebh {l:List Int}(h:l≠[]):atI l 0∈l:=dG (by have:=List.length_pos_iff.2 h;unfold InB;omega)
theorem Ia7 {G:List (List Int)}{C:List Int}(h:C∈Gag G):∃ a,InB G a/\C=Wag G a/\atI C 0=a:=by
 unfold Gag at h
 obtain⟨a,ha,rfl⟩:=List.mem_map.1 h
 obtain⟨h1,h2⟩:=List.mem_filter.1 ha
 exact⟨a,Ga3.1 h1,rfl,beq_iff_eq.1 h2⟩
theorem Wax {G:List (List Int)}(hg:GOk G){j:Int}(hj:InB G j):∃ C∈Gag G,j∈C:=by
 have hs:=Abg hg hj
 have hm:=Ebh (List.ne_nil_of_mem hs)
 have hi:=((tV hg hj).1 hm).1.inb hg hj
 have he:=Abh hg hj hm
 refine⟨Wag G (atI (Wag G j) 0),List.mem_map.2 ⟨_,List.mem_filter.2 ⟨Ga3.2 hi,?_⟩,rfl⟩,by rw[he];exact hs⟩
 rw[he]
 simp
theorem Waw (G:List (List Int)):(Gag G).length<=G.length:=by
 unfold Gag
 rw[Rbf]
 have:=List.length_filter_le (fun i=>atI (Wag G i) 0==i) (nums G.length)
 rw[Uag]at this
 exact this
structure CSt where
 rest:List (List Int)
 out:List (List Int)
structure Bbx (G:List (List Int)) (s:CSt):Prop where
 nd:(s.rest++s.out).Nodup
 mem:∀ C,C∈s.rest++s.out↔C∈Gag G
 cl:∀ C∈s.out,∀ j∈C,∀ k,Rch G j k->∃ D∈s.out,k∈D
def Hbv (out:List (List Int))(j:Int):Bool:=out.any fun D=>Waf D j
theorem Qax {out:List (List Int)}{j:Int}:Hbv out j=true↔∃ D∈out,j∈D:=by
 unfold Hbv
 rw[Tbz]
 constructor
 ·rintro⟨D,h1,h2⟩;exact⟨D,h1,Aat.1 h2⟩
 ·rintro⟨D,h1,h2⟩;exact⟨D,h1,Aat.2 h2⟩
noncomputable def Ja2 (G:List (List Int))(out:List (List Int))(C:List Int):Bool:=(Va8 G (atI C 0)).all fun j=>Hbv out j||Waf C j
theorem Qae {G:List (List Int)}(hg:GOk G){out:List (List Int)}{C:List Int}(hC:InB G (atI C 0)):Ja2 G out C=true↔∀ j,Rch G (atI C 0) j->(∃ D∈out,j∈D)\/j∈C:=by
 unfold Ja2
 rw[Rbg]
 constructor
 ·intro h j hj
  have:=h j ((wL hg hC).2 hj)
  rw[Rbw,Qax,Aat]at this
  exact this
 ·intro h j hj
  rw[Rbw,Qax,Aat]
  exact h j ((wL hg hC).1 hj)
theorem Bbx.sub {G:List (List Int)}{s:CSt}(h:Bbx G s){C:List Int}(hC:C∈s.rest):C∈Gag G:=(h.mem C).1 (Qbv _ hC)
theorem Abj {G:List (List Int)}(hg:GOk G){s:CSt}(h:Bbx G s):∀ (n:Nat) (C:List Int),C∈s.rest->(Va8 G (atI C 0)).length<=n->∃ D∈s.rest,Ja2 G s.out D=true
 | n, C, hC, hn => by
  obtain⟨a,ha,he,hea⟩:=Ia7 (h.sub hC)
  have hC0:InB G (atI C 0):=by rw[hea];exact ha
  by_cases hf:Ja2 G s.out C=true
  ·exact⟨C,hC,hf⟩
  rw[Qae hg hC0]at hf
  obtain⟨j,hf⟩:=Classical.not_forall.1 hf
  obtain⟨hj,hf⟩:=Classical.not_imp.1 hf
  rw[not_or]at hf
  obtain⟨D,hD,hjD⟩:=Wax hg (hj.inb hg hC0)
  have hDr:D∈s.rest:=by
   rcases List.mem_append.1 ((h.mem D).2 hD) with h1|h1
   ·exact h1
   ·exact absurd ⟨D,h1,hjD⟩ hf.1
  obtain⟨b,hb,hDe,heb⟩:=Ia7 hD
  have hD0:InB G (atI D 0):=by rw[heb];exact hb
  have hjb:=(tV hg hb).1 (by rw[<- hDe];exact hjD)
  rw[<- heb]at hjb
  have hna:¬ Rch G (atI D 0) (atI C 0):=fun hr=>hf.2 (by
   rw[he,tV hg ha,<- hea]
   exact⟨hj,hjb.2.trans hr⟩)
  have hlt:(Va8 G (atI D 0)).length<(Va8 G (atI C 0)).length:=by
   have hmem:atI C 0∈Va8 G (atI C 0):=(wL hg hC0).2 .refl
   have h1:=vI (l:=Va8 G (atI D 0)) (m:=(Va8 G (atI C 0)).erase (atI C 0)) (Faw (Bau _ _)) fun x hx=>by
    have hx2:=(wL hg hD0).1 hx
    refine (List.mem_erase_of_ne fun e=>hna ?_).2 ((wL hg hC0).2 ((hj.trans hjb.2).trans hx2))
    rw[<- e];exact hx2
   have h2:=List.length_erase_of_mem hmem
   have h3:=List.length_pos_of_mem hmem
   omega
  match n with
  |0=>omega
  |n+1=>exact Abj hg h n D hDr (by omega)
noncomputable def Xam (G:List (List Int))(s:CSt):Nat:=(ixF (Ja2 G s.out) s.rest).toNat
noncomputable def cO (G:List (List Int))(s:CSt):CSt:=⟨s.rest.take (Xam G s)++s.rest.drop (Xam G s+1),s.out++[atI s.rest (Xam G s)]⟩
theorem Bbx.top {G:List (List Int)}(hg:GOk G){s:CSt}(h:Bbx G s)(hr:s.rest≠[]):Xam G s<s.rest.length/\ixF (Ja2 G s.out) s.rest=(Xam G s:Int)/\Ja2 G s.out (atI s.rest (Xam G s))=true/\∀ k:Nat,k<Xam G s->Ja2 G s.out (atI s.rest (k:Int))=false:=by
 obtain⟨C,hC⟩:=List.exists_mem_of_ne_nil _ hr
 obtain⟨D,hD,hf⟩:=Abj hg h _ C hC (Qbw _)
 obtain⟨k,hk,rfl⟩:=List.mem_iff_getElem.1 hD
 have h0:0<=ixF (Ja2 G s.out) s.rest:=Lb4 hk (by rw[cK hk];exact hf)
 obtain⟨h1,h2,h3⟩:=Ebf h0
 have e:ixF (Ja2 G s.out) s.rest=(Xam G s:Int):=by unfold Xam;omega
 rw[e]at h1 h2
 refine⟨aP.1 h1,e,h2,fun k hk=>h3 k ?_⟩
 rw[e]
 omega
theorem Hb9 {l out:List (List Int)}{i:Nat}(h:i<l.length):((l.take i++l.drop (i+1))++(out++[atI l (i:Int)])).Perm (l++out):=by
 have e:l=l.take i++atI l (i:Int)::l.drop (i+1):=by
  rw[cK h,<- Sbz h,Sbu]
 conv=>rhs;rw[e]
 generalize l.take i=A
 generalize l.drop (i+1)=B
 generalize atI l (i:Int)=C
 rw[List.perm_iff_count]
 intro x
 simp only[List.count_append,List.count_cons,List.count_nil]
 omega
theorem Bbx.step {G:List (List Int)}(hg:GOk G){s:CSt}(h:Bbx G s)(hr:s.rest≠[]):Bbx G (cO G s)/\(cO G s).rest.length+1=s.rest.length:=by
 obtain⟨h1,h2,h3,-⟩:=h.top hg hr
 have hp:=Hb9 (out:=s.out) h1
 have hCr:atI s.rest (Xam G s:Int)∈s.rest:=at_mem h1
 unfold cO
 generalize Xam G s=i at *
 refine⟨⟨hp.nodup_iff.2 h.nd,fun C=>by rw[hp.mem_iff];exact h.mem C,fun C hC j hj k hk=>?_⟩,by simp only[Qbs,Qb9,Rbn];omega⟩
 dsimp only at hC ⊢
 rcases List.mem_append.1 hC with hC|hC
 ·obtain⟨D,hD,hkD⟩:=h.cl C hC j hj k hk
  exact⟨D,Qbv _ hD,hkD⟩
 ·rw[Qb6]at hC
  subst hC
  obtain⟨a,ha,he,hea⟩:=Ia7 (h.sub hCr)
  have hC0:InB G (atI (atI s.rest (i:Int)) 0):=by rw[hea];exact ha
  have hja:=(tV hg ha).1 (by rw[<- he];exact hj)
  rcases (Qae hg hC0).1 h3 k (by rw[hea];exact hja.1.trans hk) with ⟨D,hD,hkD⟩|hkC
  ·exact⟨D,Qbv _ hD,hkD⟩
  ·exact⟨_,Qby _ (List.mem_singleton.2 rfl),hkC⟩
end Go.Proofs.YtdpfilpckndhcaaGreatDoor.Rf

namespace Go.Proofs.YtdpfilpckndhcaaGreatDoor.Rf
set_option linter.unusedVariables false
set_option linter.unusedSimpArgs false
theorem Bbx.len {G:List (List Int)}{s:CSt}(h:Bbx G s):s.rest.length+s.out.length<=G.length:=by
 have h1:=vI h.nd (m:=Gag G) fun C hC=>(h.mem C).1 hC
 rw[Qbs]at h1
 exact Sbn h1 (Waw G)
end Go.Proofs.YtdpfilpckndhcaaGreatDoor.Rf

namespace Go.Proofs.YtdpfilpckndhcaaGreatDoor.Rf
set_option linter.unusedVariables false
set_option linter.unusedSimpArgs false
theorem Ebp {n:Int}{l:List bL}{no:Int}(h:no<=l.length):ext n l no=l:=by
 unfold ext
 rw[show (no-l.length).toNat=0 by omega,List.replicate_zero,List.append_nil]
def Pbc (rd:List (List Int))(s:aR)(k:Nat)(i:Nat):aR:=if decide (Abr rd [(k:Int),(i:Int)+1]<0) then sV s (k:Int) ((i:Int)+1) (row0 s.n) else s
def Nbb (rd:List (List Int))(k:Nat):Nat->aR->aR
 |0,s=>s
 |m+1,s=>Pbc rd (Nbb rd k m s) k m
def Pbb (rd:List (List Int))(t:aR):Nat->aR
 |0=>t
 |k+1=>Nbb rd k (atI t.rows (k:Int)).length (Pbb rd t k)
theorem Qal {rd:List (List Int)}{x:List Int}:Abr rd x<0↔x∉rd:=by
 have h:=oI (fun y=>decide (x=y)) rd
 constructor
 ·intro h1 hm
  have:rd.any (fun y=>decide (x=y))=true:=List.any_eq_true.2 ⟨x,hm,by simp⟩
  rw[this,decide_eq_true_eq]at h
  unfold Abr at h1
  omega
 ·intro hm
  have:rd.any (fun y=>decide (x=y))=false:=by
   rw[List.any_eq_false]
   intro y hy e
   exact hm (by rw[of_decide_eq_true e];exact hy)
  rw[this,decide_eq_false_iff_not]at h
  unfold Abr
  omega
structure Xae (rd:List (List Int)) (t s:aR) (k m:Nat):Prop where
 ok:eQ s=true
 n:s.n=t.n
 len:∀ j:Nat,(atI s.rows (j:Int)).length=(atI t.rows (j:Int)).length
 row:∀ rep no,inst t.n rep no=true->Caf s rep no=if (rep<k\/(rep=k/\no<=m))/\[rep,no]∉rd then row0 t.n else Caf t rep no
theorem Xae.rowsLen {rd:List (List Int)}{t s:aR}{k m:Nat}(ht:eQ t=true)(h:Xae rd t s k m):s.rows.length=t.rows.length:=by
 have h1:=lD ht
 have h2:=lD h.ok
 have h3:=h.n
 omega
theorem Xae.stepS {rd:List (List Int)}{t s:aR}{k m:Nat}(ht:eQ t=true)(h:Xae rd t s k m)(hk:k<t.rows.length)(hm:m<(atI t.rows (k:Int)).length):Xae rd t (Pbc rd s k m) k (m+1):=by
 have hlen:=lD ht
 have h6:=(kJ ht (at_mem hk)).1
 have hi:inst t.n (k:Int) ((m:Int)+1)=true:=by
  unfold inst inR
  simp only[Qbq,decide_eq_true_eq]
  omega
 have hi':inst s.n (k:Int) ((m:Int)+1)=true:=by rw[h.n];exact hi
 unfold Pbc
 cases hf:decide (Abr rd [(k:Int),(m:Int)+1]<0)
 ·have hin:[(k:Int),(m:Int)+1]∈rd:=by
   rw[decide_eq_false_iff_not,Qal]at hf
   exact Classical.not_not.1 hf
  refine⟨h.ok,h.n,h.len,fun rep no hr=>?_⟩
  simp only[Qbr,if_false]
  rw[h.row rep no hr]
  have h0:=dS hr
  by_cases e:rep=(k:Int)/\no=(m:Int)+1
  ·obtain⟨e1,e2⟩:=e
   subst e1;subst e2
   rw[if_neg (fun hh=>hh.2 hin),if_neg (fun hh=>hh.2 hin)]
  ·have:(rep<(k:Int)\/rep=(k:Int)/\no<=(m:Int))↔(rep<(k:Int)\/rep=(k:Int)/\no<=((m+1:Nat):Int)):=by omega
   simp only[this]
 ·have hni:[(k:Int),(m:Int)+1]∉rd:=Qal.1 (of_decide_eq_true hf)
  simp only[if_true]
  refine⟨Rao h.ok hi' (by rw[h.n];exact Ya2 (gB ht)),by unfold sV;exact h.n,fun j=>?_,fun rep no hr=>?_⟩
  ·have hkl:InB s.rows (k:Int):=aP.2 (by rw[h.rowsLen ht];exact hk)
   unfold sV
   dsimp only
   by_cases e:j=k
   ·subst e
    rw[yK hkl,dR,Ebp (by rw[h.len];omega),h.len]
   ·rw[vB (by omega) (by omega) (by omega),h.len]
  ·rw[Oan h.ok hi' (by rw[h.n];exact hr),h.row rep no hr,h.n]
   have h0:=dS hr
   by_cases e:rep=(k:Int)/\no=(m:Int)+1
   ·obtain⟨e1,e2⟩:=e
    subst e1;subst e2
    rw[if_pos ⟨rfl,rfl⟩,if_pos ⟨.inr ⟨rfl,by omega⟩,hni⟩]
   ·rw[if_neg e]
    have:(rep<(k:Int)\/rep=(k:Int)/\no<=(m:Int))↔(rep<(k:Int)\/rep=(k:Int)/\no<=((m+1:Nat):Int)):=by omega
    simp only[this]
theorem Xae.stepN {rd:List (List Int)}{t s:aR}{k:Nat}(ht:eQ t=true)(h:Xae rd t s k 0)(hk:k<t.rows.length):∀ m,m<=(atI t.rows (k:Int)).length->Xae rd t (Nbb rd k m s) k m
 |0,_=>h
 |m+1,hm=>(Xae.stepN ht h hk m (by omega)).stepS ht hk (by omega)
theorem Xae.all {rd:List (List Int)}{t:aR}(ht:eQ t=true)(hrd:∀ x∈rd,x∈Qbn t.rows):∀ k,k<=t.rows.length->Xae rd t (Pbb rd t k) k 0
 | 0, _ => by
  refine⟨ht,rfl,fun _=>rfl,fun rep no hr=>?_⟩
  have h0:=dS hr
  rw[if_neg (by omega)]
  rfl
 | k + 1, hk => by
  have h:=(Xae.all ht hrd k (by omega)).stepN ht (by omega) (atI t.rows (k:Int)).length (Qbw _)
  refine⟨h.ok,h.n,h.len,fun rep no hr=>?_⟩
  show Caf (Nbb rd k _ (Pbb rd t k)) rep no=_
  rw[h.row rep no hr]
  have h0:=dS hr
  by_cases e:rep=(k:Int)/\¬ no<=((atI t.rows (k:Int)).length:Int)
  ·obtain⟨e1,e2⟩:=e
   have er:Caf t rep no=row0 t.n:=by
    unfold Caf
    rw[e1,if_neg e2]
   rw[er,ite_self,ite_self]
  ·have:(rep<(k:Int)\/rep=(k:Int)/\no<=((atI t.rows (k:Int)).length:Int))↔(rep<((k+1:Nat):Int)\/rep=((k+1:Nat):Int)/\no<=((0:Nat):Int)):=by omega
   simp only[this]
end Go.Proofs.YtdpfilpckndhcaaGreatDoor.Rf

namespace Go.Proofs.YtdpfilpckndhcaaGreatDoor.Rf
set_option linter.unusedVariables false
set_option linter.unusedSimpArgs false
end Go.Proofs.YtdpfilpckndhcaaGreatDoor.Rf

namespace Go.Proofs.YtdpfilpckndhcaaGreatDoor.Rf
set_option linter.unusedVariables false
set_option linter.unusedSimpArgs false
theorem Lby {n:Int}(hg:bD n=true):eQ ⟨n,Qb0 n.toNat []⟩=true:=by
 have hn:=aY hg
 unfold eQ
 simp only[Qbq,Rbo,Rbg,beq_iff_eq]
 refine⟨⟨hg,by omega⟩,fun l hl=>?_⟩
 rw[List.eq_of_mem_replicate hl]
 simp
end Go.Proofs.YtdpfilpckndhcaaGreatDoor.Rf

namespace Go.Proofs.YtdpfilpckndhcaaGreatDoor.Rf
set_option linter.unusedVariables false
set_option linter.unusedSimpArgs false
section
variable {T:Nat->Ent} {β:Type}
end
end Go.Proofs.YtdpfilpckndhcaaGreatDoor.Rf

namespace Go.Proofs.YtdpfilpckndhcaaGreatDoor.Rf
set_option linter.unusedVariables false
set_option linter.unusedSimpArgs false
def Xa2 (c:nS)(rep no:Int)(k i:Nat)(r:bL):Bool:=r.state==0||!Iak c r.cmd||((k:Int)==rep&&(i:Int)+1==no)
def Eai (c:nS)(rep no:Int)(k:Nat)(l:List bL)(a:gT):Nat->gT
 |0=>a
 | i + 1 => if Xa2 c rep no k i (atI l (i : Int)) then Eai c rep no k l a i
  else ⟨max (Eai c rep no k l a i).seq (atI l (i:Int)).attr.seq,cZ (Eai c rep no k l a i).deps (k:Int) ((i:Int)+1)⟩
def Jaq (t:aR)(c:nS)(rep no:Int):Nat->gT
 |0=>⟨0,Qb0 t.n.toNat 0⟩
 |k+1=>Eai c rep no k (atI t.rows (k:Int)) (Jaq t c rep no k) (atI t.rows (k:Int)).length
def Xaa (t:aR)(c:nS)(rep no:Int):gT:=⟨(Jaq t c rep no t.rows.length).seq+1,(Jaq t c rep no t.rows.length).deps⟩
theorem Eab {c:nS}{rep no:Int}{k:Nat}{l:List bL}{a:gT}{M:Int}(h0:0<=a.seq)(h1:a.seq<=M):∀ i,i<=l.length->(∀ r∈l,r.attr.seq<=M) ->
  (Eai c rep no k l a i).deps.length=a.deps.length/\0<=(Eai c rep no k l a i).seq/\(Eai c rep no k l a i).seq<=M
 |0,_,_=>⟨rfl,h0,h1⟩
 | i + 1, hi, hr => by
  obtain⟨h2,h3,h4⟩:=Eab (c:=c) (rep:=rep) (no:=no) (k:=k) h0 h1 i (by omega) hr
  have h5:=hr _ (at_mem (show i<l.length by omega))
  unfold Eai
  split
  ·exact⟨h2,h3,h4⟩
  ·exact⟨by simp only[dR];exact h2,by simp only;omega,by simp only;omega⟩
theorem Eaa {t:aR}{c:nS}{rep no:Int}{M:Int}(hM:0<=M):∀ k,k<=t.rows.length->(∀ l∈t.rows,∀ r∈l,r.attr.seq<=M) ->
  (Jaq t c rep no k).deps.length=t.n.toNat/\0<=(Jaq t c rep no k).seq/\(Jaq t c rep no k).seq<=M
 |0,_,_=>⟨by simp[Jaq],by simp[Jaq],hM⟩
 | k + 1, hk, hr => by
  obtain⟨h2,h3,h4⟩:=Eaa (c:=c) (rep:=rep) (no:=no) hM k (by omega) hr
  obtain⟨h5,h6,h7⟩:=Eab (c:=c) (rep:=rep) (no:=no) (k:=k) (l:=atI t.rows (k:Int)) h3 h4 (atI t.rows (k:Int)).length (Qbw _) (hr _ (at_mem (show k<t.rows.length by omega)))
  exact⟨h5.trans h2,h6,h7⟩
theorem Rae {t:aR}{c:nS}{rep no:Int}{M:Int}(hM:0<=M)(hr:∀ l∈t.rows,∀ r∈l,r.attr.seq<=M) :
  (Xaa t c rep no).deps.length=t.n.toNat/\1<=(Xaa t c rep no).seq/\(Xaa t c rep no).seq<=M+1:=by
 obtain⟨h2,h3,h4⟩:=Eaa (c:=c) (rep:=rep) (no:=no) hM t.rows.length (Qbw _) hr
 unfold Xaa
 exact⟨h2,by simp only;omega,by simp only;omega⟩
end Go.Proofs.YtdpfilpckndhcaaGreatDoor.Rf

namespace Go.Proofs.YtdpfilpckndhcaaGreatDoor.Rf
set_option linter.unusedVariables false
set_option linter.unusedSimpArgs false
theorem Gav (a b:List (List UInt8)):lG (a++b)=lG a+lG b:=by
 induction a with
 |nil=>simp[lG]
 | cons w a ih =>
  have e:lG (w::a++b)=w.length+4+lG (a++b):=rfl
  have e2:lG (w::a)=w.length+4+lG a:=rfl
  rw[e,ih,e2];omega
theorem Oaz (ws:List (List UInt8)):(ws.flatMap bI).length=lG ws:=by
 induction ws with
 |nil=>rfl
 |cons w ws ih=>rw[Tbq,Qbs,ih,fA];rfl
theorem Naa {t:List UInt8}(h:okF t=true):(pJ t).length=bQ t/\bI (pJ t)=t.take (bQ t+4):=by
 obtain⟨h1,h2⟩:=oF h
 simp only[okF,Qbq,beq_iff_eq]at h
 refine⟨?_,h.2⟩
 have:=congrArg List.length h.2
 rw[fA,Qb9]at this
 omega
theorem Qag (s:List UInt8):(aF s).flatMap bI=s.take (lG (aF s)):=by
 have:∀ n (s:List UInt8),s.length<=n->(aF s).flatMap bI=s.take (lG (aF s)):=by
  intro n
  induction n with
  | zero =>
   intro s hs
   have:okF s=false:=by
    cases h:okF s
    ·rfl
    ·have:=oF h;omega
   rw[bX this];simp[lG]
  | succ n ih =>
   intro s hs
   cases h:okF s
   ·rw[bX h];simp[lG]
   ·obtain⟨p1,p2⟩:=Naa h
    have hr:=oF h
    have h1:=ih (s.drop (bQ s+4)) (by rw[Rbn];omega)
    rw[iA h,Tbq,h1,p2]
    have e:lG (pJ s::aF (s.drop (bQ s+4)))=(bQ s+4)+lG (aF (s.drop (bQ s+4))):=by
     rw[<- p1];rfl
    rw[e,List.take_add (i:=bQ s+4)]
 exact this s.length s (Qbw _)
theorem Qaf (s:List UInt8)(k:Nat):∃ m,aF (s.take k)=(aF s).take m:=by
 have:∀ n (s:List UInt8) (k:Nat),s.length<=n->∃ m,aF (s.take k)=(aF s).take m:=by
  intro n
  induction n with
  | zero =>
   intro s k hs
   have:okF (s.take k)=false:=by
    cases h:okF (s.take k)
    ·rfl
    ·have:=oF h;rw[Qb9]at this;omega
   exact⟨0,by rw[bX this,Ube]⟩
  | succ n ih =>
   intro s k hs
   cases h:okF (s.take k)
   ·exact⟨0,by rw[bX h,Ube]⟩
   ·obtain⟨p1,p2⟩:=Naa h
    obtain⟨r1,r2⟩:=oF h
    rw[Qb9]at r2
    have el:bQ (s.take k)=bQ s:=by
     unfold bQ
     have:atI (s.take k) 0=atI s 0:=by
      have h0:(0:Nat)<(s.take k).length:=by rw[Qb9];omega
      have e1:atI (s.take k) ((0:Nat):Int)=(s.take k)[0]:=cK h0
      have e2:atI s ((0:Nat):Int)=s[0]:=cK (by omega)
      rw[List.getElem_take]at e1
      exact e1.trans e2.symm
     rw[this]
    rw[el]at p1 p2 r1 r2
    have ep:pJ (s.take k)=pJ s:=by
     unfold pJ
     rw[el,List.take_take,Nat.min_eq_left (by omega)]
    rw[ep]at p1 p2
    rw[List.take_take,Nat.min_eq_left (by omega)]at p2
    have hok:okF s=true:=by
     simp only[okF,Qbq,beq_iff_eq,decide_eq_true_eq]
     exact⟨⟨r1,by omega⟩,p2⟩
    obtain⟨m,hm⟩:=ih (s.drop (bQ s+4)) (k-(bQ s+4)) (by rw[Rbn];omega)
    refine⟨m+1,?_⟩
    rw[iA h,iA hok,ep,el,List.drop_take,hm,List.take_succ_cons]
 exact this s.length s k (Qbw _)
def Ha6 (rep:Int)(xs:List bL):Nat->List (List UInt8)
 |0=>[]
 |k+1=>Ha6 rep xs k++[gN rep ((k:Int)+1) (atI xs (k:Int))]
def Jas (rows:List (List bL)):Nat->List (List UInt8)
 |0=>[]
 |i+1=>Jas rows i++Ha6 (i:Int) (atI rows (i:Int)) (atI rows (i:Int)).length
theorem Fbo (rep:Int)(xs:List bL):∀ k,(Ha6 rep xs k).flatMap bI=Cac rep xs k
 |0=>rfl
 | k + 1 => by
  have e:Cac rep xs (k+1)=Cac rep xs k++bI (gN rep ((k:Int)+1) (atI xs (k:Int))):=rfl
  rw[e,<- Fbo rep xs k]
  simp[Ha6,List.flatMap_append]
theorem Taw (rows:List (List bL)):∀ i,(Jas rows i).flatMap bI=yC rows i
 |0=>rfl
 | i + 1 => by
  have e:yC rows (i+1)=yC rows i++Cac (i:Int) (atI rows (i:Int)) (atI rows (i:Int)).length:=rfl
  rw[e,<- Taw rows i,<- Fbo]
  simp[Jas,List.flatMap_append]
theorem Sae {t:aR}(h:eQ t=true){i:Nat}(hi:i<t.rows.length):∀ j:Nat,j<=(atI t.rows (i:Int)).length->∀ w∈Ha6 (i:Int) (atI t.rows (i:Int)) j,w.length<=200/\(aN t.n w).2.2.2=true
 |0,_=>by simp[Ha6]
 | j + 1, hj => by
  intro w hw
  have e:Ha6 (i:Int) (atI t.rows (i:Int)) (j+1)=Ha6 (i:Int) (atI t.rows (i:Int)) j++[gN (i:Int) ((j:Int)+1) (atI (atI t.rows (i:Int)) (j:Int))]:=rfl
  rw[e]at hw
  rcases List.mem_append.1 hw with hw|hw
  ·exact Sae h hi j (by omega) w hw
  ·rw[List.mem_singleton.1 hw]
   obtain⟨h1,h2,h3,h4⟩:=Har h hi (j:=j) (by omega)
   have:=nE h1 h2 h3
   rw[Aaj h1 h2 h3]
   exact⟨by omega,rfl⟩
theorem Eal {t:aR}(h:eQ t=true):∀ i:Nat,i<=t.rows.length->∀ w∈Jas t.rows i,w.length<=200/\(aN t.n w).2.2.2=true
 |0,_=>by simp[Jas]
 | i + 1, hi => by
  intro w hw
  have e:Jas t.rows (i+1)=Jas t.rows i++Ha6 (i:Int) (atI t.rows (i:Int)) (atI t.rows (i:Int)).length:=rfl
  rw[e]at hw
  rcases List.mem_append.1 hw with hw|hw
  ·exact Eal h i (by omega) w hw
  ·exact Sae h (by omega) _ (Qbw _) w hw
theorem Lab {t:aR}(h:eQ t=true):aF (yC t.rows t.rows.length)=Jas t.rows t.rows.length:=by
 rw[<- Taw]
 exact Aaw fun w hw=>(Eal h _ (Qbw _) w hw).1
theorem wY {n:Int}:∀ {ws:List (List UInt8)} (vs:List (List UInt8)) (l:Int) (t:aR),(∀ w∈ws,(aN n w).2.2.2=true) ->
  jJ n (ws++vs) l t=jJ n vs (l+(lG ws:Nat)) (jJ n ws l t).2/\(jJ n ws l t).1=l+(lG ws:Nat)
 |[],vs,l,t,_=>by simp[jJ,lG]
 | w :: ws, vs, l, t, h => by
  have hw:=h w Qb7
  have e:lG (w::ws)=w.length+4+lG ws:=rfl
  obtain⟨h1,h2⟩:=wY (ws:=ws) vs (l+((w.length:Int)+4)) (sV t (aN n w).1 (aN n w).2.1 (aN n w).2.2.1) fun x hx=>h x (Qb2 _ hx)
  have u1:jJ n (w::ws++vs) l t=jJ n (ws++vs) (l+((w.length:Int)+4)) (sV t (aN n w).1 (aN n w).2.1 (aN n w).2.2.1):=by
   show jJ n (w::(ws++vs)) l t=_
   rw[jJ,if_pos hw]
  have u2:jJ n (w::ws) l t=jJ n ws (l+((w.length:Int)+4)) (sV t (aN n w).1 (aN n w).2.1 (aN n w).2.2.1):=by rw[jJ,if_pos hw]
  rw[u1,u2,h1,h2,e]
  refine⟨?_,by omega⟩
  congr 1
  omega
def Ea2 (rows:List (List bL))(k j:Nat):List (List bL):=(Ubc rows.length).map fun i:Nat=>if i<k then atI rows (i:Int) else if i=k then (atI rows (i:Int)).take j else []
theorem qJ (rows:List (List bL))(k j:Nat):(Ea2 rows k j).length=rows.length:=by simp[Ea2]
theorem wN {rows:List (List bL)}{k j i:Nat}(hi:i<rows.length):atI (Ea2 rows k j) (i:Int)=if i<k then atI rows (i:Int) else if i=k then (atI rows (i:Int)).take j else []:=by
 rw[cK (by rw[qJ];exact hi)]
 simp[Ea2]
theorem Ua1 {α:Type}[Inhabited α]{xs ys:List α}(hl:xs.length=ys.length)(h:∀ i:Nat,i<xs.length->atI xs (i:Int)=atI ys (i:Int)):xs=ys:=by
 refine List.ext_getElem hl fun i h1 h2=>?_
 have:=h i h1
 rwa[cK h1,cK h2]at this
theorem Zag (rows:List (List bL)):Ea2 rows 0 0=Qb0 rows.length []:=by
 refine Ua1 (by simp[Ea2]) fun i hi=>?_
 rw[qJ]at hi
 rw[wN hi,if_neg (by omega)]
 have h2:i<(Qb0 rows.length ([]:List bL)).length:=by simpa using hi
 rw[cK h2,List.getElem_replicate]
 split
 ·rw[Ube]
 ·rfl
theorem Zah (rows:List (List bL))(k:Nat):Ea2 rows k (atI rows (k:Int)).length=Ea2 rows (k+1) 0:=by
 refine Ua1 (by simp[Ea2]) fun i hi=>?_
 rw[qJ]at hi
 rw[wN hi,wN hi]
 rcases Tbn i k with h|h|h
 ·rw[if_pos h,if_pos (by omega)]
 ·subst h
  rw[if_neg (by omega),if_pos rfl,if_pos (by omega),Sbx]
 ·rw[if_neg (by omega),if_neg (by omega),if_neg (by omega)]
  split
  ·rw[Ube]
  ·rfl
theorem Zai (rows:List (List bL)):Ea2 rows rows.length 0=rows:=by
 refine Ua1 (by simp[Ea2]) fun i hi=>?_
 rw[qJ]at hi
 rw[wN hi,if_pos hi]
theorem Db5 {n:Int}{rows:List (List bL)}{k j:Nat}(hk:k<rows.length)(hj:j<(atI rows (k:Int)).length) :
  sV ⟨n,Ea2 rows k j⟩ (k:Int) ((j:Int)+1) (atI (atI rows (k:Int)) (j:Int))=⟨n,Ea2 rows k (j+1)⟩:=by
 unfold sV
 simp only[aR.mk.injEq,true_and]
 have hb:InB (Ea2 rows k j) (k:Int):=by unfold InB;rw[qJ];omega
 refine Ua1 (by rw[dR,qJ,qJ]) fun i hi=>?_
 rw[dR,qJ]at hi
 by_cases e:i=k
 ·subst e
  rw[yK hb,wN hi,wN hi,if_neg (by omega),if_pos rfl,if_neg (by omega),if_pos rfl]
  rw[<- take_at hj]
  unfold ext
  have hl:((atI rows (i:Int)).take j).length=j:=by rw[Qb9];omega
  rw[hl,show ((j:Int)+1-j).toNat=1 by omega,show ((j:Int)+1-1)=j by omega]
  generalize (atI rows (i:Int)).take j=xs at hl
  subst hl
  simp[cZ,List.set_append]
 ·rw[vB (by omega) (by omega) (by omega),wN hi,wN hi]
  rcases Tbn i k with h|h|h
  ·rw[if_pos h,if_pos h]
  ·omega
  ·rw[if_neg (by omega),if_neg e,if_neg (by omega),if_neg e]
theorem Nax {t:aR}(h:eQ t=true){k:Nat}(hk:k<t.rows.length)(l:Int):∀ j:Nat,j<=(atI t.rows (k:Int)).length->(jJ t.n (Ha6 (k:Int) (atI t.rows (k:Int)) j) l ⟨t.n,Ea2 t.rows k 0⟩).2=⟨t.n,Ea2 t.rows k j⟩
 |0,_=>rfl
 | j + 1, hj => by
  have ih:=Nax h hk l j (by omega)
  obtain⟨h1,h2,h3,h4⟩:=Har h hk (j:=j) (by omega)
  have e:Ha6 (k:Int) (atI t.rows (k:Int)) (j+1)=Ha6 (k:Int) (atI t.rows (k:Int)) j++[gN (k:Int) ((j:Int)+1) (atI (atI t.rows (k:Int)) (j:Int))]:=rfl
  rw[e,(wY _ l _ fun w hw=>(Sae h hk j (by omega) w hw).2).1,ih]
  rw[jJ,Aaj h1 h2 h3]
  simp only[if_true,jJ]
  exact Db5 hk (by omega)
theorem Ga9 {t:aR}(h:eQ t=true):∀ i:Nat,i<=t.rows.length->(jJ t.n (Jas t.rows i) 0 ⟨t.n,Ea2 t.rows 0 0⟩).2=⟨t.n,Ea2 t.rows i 0⟩
 |0,_=>rfl
 | i + 1, hi => by
  have ih:=Ga9 h i (by omega)
  have e:Jas t.rows (i+1)=Jas t.rows i++Ha6 (i:Int) (atI t.rows (i:Int)) (atI t.rows (i:Int)).length:=rfl
  rw[e,(wY _ 0 _ fun w hw=>(Eal h i (by omega) w hw).2).1,ih,Nax h (by omega) _ _ (Qbw _),Zah]
theorem Tav {α:Type}(A B:List α)(m:Nat):(A++B).take m=A.take m/\m<=A.length\/∃ m',(A++B).take m=A++B.take m':=by
 rcases Nat.le_total m A.length with h|h
 ·exact .inl ⟨List.take_append_of_le_length h,h⟩
 ·exact .inr ⟨m-A.length,by rw[List.take_append,Qbx h]⟩
theorem Pai (rep:Int)(xs:List bL):∀ (j m:Nat),∃ j',j'<=j/\(Ha6 rep xs j).take m=Ha6 rep xs j'
 |0,m=>⟨0,Qbw _,by simp[Ha6]⟩
 | j + 1, m => by
  have e:Ha6 rep xs (j+1)=Ha6 rep xs j++[gN rep ((j:Int)+1) (atI xs (j:Int))]:=rfl
  rcases Tav (Ha6 rep xs j) [gN rep ((j:Int)+1) (atI xs (j:Int))] m with ⟨h,-⟩|⟨m',h⟩
  ·obtain⟨j',h1,h2⟩:=Pai rep xs j m
   exact⟨j',by omega,by rw[e,h,h2]⟩
  ·cases m' with
   |zero=>exact⟨j,by omega,by rw[e,h];simp⟩
   |succ m'=>exact⟨j+1,Qbw _,by rw[e,h];simp⟩
theorem Oax (rows:List (List bL)):∀ (i m:Nat),(Jas rows i).take m=Jas rows i\/∃ k j:Nat,k<i/\j<=(atI rows (k:Int)).length/\(Jas rows i).take m=Jas rows k++Ha6 (k:Int) (atI rows (k:Int)) j
 |0,m=>.inl (by simp[Jas])
 | i + 1, m => by
  have e:Jas rows (i+1)=Jas rows i++Ha6 (i:Int) (atI rows (i:Int)) (atI rows (i:Int)).length:=rfl
  rcases Tav (Jas rows i) (Ha6 (i:Int) (atI rows (i:Int)) (atI rows (i:Int)).length) m with ⟨h,-⟩|⟨m',h⟩
  ·rcases Oax rows i m with h2|⟨k,j,h2,h3,h4⟩
   ·exact .inr ⟨i,0,by omega,Sb5 _,by rw[e,h,h2];simp[Ha6]⟩
   ·exact .inr ⟨k,j,by omega,h3,by rw[e,h,h4]⟩
  ·obtain⟨j',h1,h2⟩:=Pai (i:Int) (atI rows (i:Int)) (atI rows (i:Int)).length m'
   exact .inr ⟨i,j',by omega,h1,by rw[e,h,h2]⟩
theorem Abl {t:aR}(h:eQ t=true)(m:Nat):∃ k j:Nat,(jJ t.n ((Jas t.rows t.rows.length).take m) 0 ⟨t.n,Ea2 t.rows 0 0⟩).2=⟨t.n,Ea2 t.rows k j⟩:=by
 rcases Oax t.rows t.rows.length m with e|⟨k,j,hk,hj,e⟩
 ·exact⟨t.rows.length,0,by rw[e];exact Ga9 h _ (Qbw _)⟩
 ·refine⟨k,j,?_⟩
  rw[e,(wY _ 0 _ fun w hw=>(Eal h k (by omega) w hw).2).1,Ga9 h k (by omega),Nax h hk _ j hj]
theorem Db4 {rows:List (List bL)}{k j i a:Nat}(hi:i<rows.length)(ha:a<(atI (Ea2 rows k j) (i:Int)).length):a<(atI rows (i:Int)).length/\atI (atI (Ea2 rows k j) (i:Int)) (a:Int)=atI (atI rows (i:Int)) (a:Int):=by
 rw[wN hi]at ha ⊢
 split at ha
 ·rename_i h;rw[if_pos h];exact⟨ha,rfl⟩
 ·rename_i h
  split at ha
  ·rename_i h2
   rw[if_neg h,if_pos h2]
   have ha2:a<(atI rows (i:Int)).length:=by rw[Qb9]at ha;omega
   refine⟨ha2,?_⟩
   rw[cK ha,cK ha2,List.getElem_take]
  ·simp at ha
theorem Uak {t:aR}(h:eQ t=true):nU t.n=⟨t.n,Ea2 t.rows 0 0⟩:=by
 unfold nU
 rw[Zag]
 have:=lD h
 rw[show t.n.toNat=t.rows.length by omega]
theorem Ebk {t:aR}(h:eQ t=true):jJ t.n (aF (yC t.rows t.rows.length)) 0 (nU t.n)=(((yC t.rows t.rows.length).length:Int),t):=by
 rw[Lab h,Uak h]
 have h1:=(wY [] 0 (⟨t.n,Ea2 t.rows 0 0⟩:aR) fun w hw=>(Eal h t.rows.length (Qbw _) w hw).2).2
 have h2:=Ga9 h t.rows.length (Qbw _)
 rw[Zai]at h2
 have h3:=Oaz (Jas t.rows t.rows.length)
 rw[Taw]at h3
 refine Prod.ext ?_ h2
 rw[h1,h3];simp
theorem Waj {n:Int}{s:List UInt8}(h:¬ (jJ n (aF s) 0 (nU n)).1<(s.length:Int)):(aF s).flatMap bI=s/\(jJ n (aF s) 0 (nU n)).1=(s.length:Int)/\lG (aF s)=s.length:=by
 have h1:=Saz (n:=n) (aF s) 0 (nU n)
 have h2:=wB s
 have h3:lG (aF s)=s.length:=by omega
 refine⟨by rw[Qag,h3,Sbx],by omega,h3⟩
theorem Uav {n:Int}:∀ {ws:List (List UInt8)} {l:Int} {t:aR},(jJ n ws l t).1=l+(lG ws:Nat)->∀ w∈ws,(aN n w).2.2.2=true
 |[],l,t,_=>by simp
 | w :: ws, l, t, h => by
  have e:lG (w::ws)=w.length+4+lG ws:=rfl
  rw[jJ]at h
  split at h
  ·rename_i hw
   intro x hx
   rcases List.mem_cons.1 hx with rfl|hx
   ·exact hw
   ·exact Uav (ws:=ws) (h.trans (by rw[e];omega)) x hx
  ·rw[e]at h
   simp only at h
   omega
theorem Ya7 {n:Int}{s:List UInt8}(h:(aN n s).2.2.2=true):rowOk n (aN n s).2.2.1=true:=by
 unfold aN vE at h ⊢
 split at h
 ·cases h
 ·rename_i hc
  rw[if_neg hc]
  simp only[Rbw,not_or,Rbe,Sbc,Tb1,Tb7,Qbq]at hc
  exact hc.2
theorem Abp {n:Int}:∀ (ws:List (List UInt8)) (l:Int) (t:aR),eQ t=true/\t.n=n->eQ (jJ n ws l t).2=true/\(jJ n ws l t).2.n=n
 |[],l,t,h=>h
 | w :: ws, l, t, h => by
  rw[jJ]
  split
  ·rename_i hw
   obtain⟨h1,h2⟩:=qW hw
   refine Abp ws _ _ ⟨Rao h.1 (by rw[h.2];exact h2) (by rw[h.2];exact Ya7 hw),h.2⟩
  ·exact h
theorem Ebl {n:Int}{s:List UInt8}{rep no:Int}{r:bL}(hg:bD n=true)(hi:inst n rep no=true)(hr:rowOk n r=true)(h:¬ (jJ n (aF s) 0 (nU n)).1<(s.length:Int)) :
  (jJ n (aF (s++bI (gN rep no r))) 0 (nU n)).1=((s++bI (gN rep no r)).length:Int)/\(jJ n (aF (s++bI (gN rep no r))) 0 (nU n)).2=sV (jJ n (aF s) 0 (nU n)).2 rep no r:=by
 obtain⟨h1,h2,h3⟩:=Waj h
 have hall:∀ w∈aF s,(aN n w).2.2.2=true:=Uav (by rw[h2,h3];simp)
 have hl:=nE hg hi hr
 have ef:aF (s++bI (gN rep no r))=aF s++[gN rep no r]:=by
  have h200:∀ w∈aF s++[gN rep no r],w.length<=200:=by
   intro w hw
   rcases List.mem_append.1 hw with hw|hw
   ·exact (jF s).1 w hw
   ·rw[List.mem_singleton.1 hw];omega
  have:=Aaw h200
  rw[List.flatMap_append,h1]at this
  simpa using this
 rw[ef,(wY [gN rep no r] 0 (nU n) hall).1,jJ,Aaj hg hi hr]
 simp only[if_true,jJ]
 refine⟨?_,trivial⟩
 rw[Qbs,fA,h3]
 omega
def Jao (s:List UInt8):List (List UInt8)×Int×Bool:=if decide (20000<(s.length:Int)) then ([],0,false) else (aF s,(lG (aF s):Nat),true)
theorem Xaq {n rep no:Int}{r:bL}:(gW n rep no r).1.length<=100:=by
 unfold gW
 split
 ·rename_i h
  simp only[Qbq]at h
  exact nE h.1.1 h.1.2 h.2
 ·simp
theorem Ual (t:aR):(Pa0 t).1.length<=20000:=by
 unfold Pa0
 split
 ·rename_i h
  simp only[Qbq,Rbe,decide_eq_false_iff_not]at h
  have:=h.2
  simp only
  omega
 ·simp
theorem Vad {n:Int}{s:List UInt8}{rep no:Int}{r:bL}:(Gap n s rep no r).1.length<=20000:=by
 unfold Gap
 split
 ·rename_i h
  simp only[Qbq,Rbe,decide_eq_false_iff_not]at h
  have:=h.2
  simp only[Qbs,fA]
  omega
 ·simp
theorem Tah (k:Nat):bytesOf (Qb0 k [D.int .u8 0])=some (Qb0 k 0):=by
 induction k with
 |zero=>rfl
 |succ k ih=>rw[Uba,Uba];unfold bytesOf;rw[ih];rfl
theorem Va9 {n:Int}(h0:0<=n)(h1:n<=1000):(aO.make 1 [.int .u8 0]).run [i64 n]=some [.rows 1 (Qb0 n.toNat [.int .u8 0])]:=by
 have hb:dZ=140737488355328:=rfl
 simp only[aO.run,i64]
 rw[if_pos ⟨h0,by omega⟩]
 rfl
theorem Eb6 (k:Nat):aO.bstr.run [.rows 1 (Qb0 k [D.int .u8 0])]=some [.str (Qb0 k 0)]:=by
 simp only[aO.run,Tah]
 rfl
end Go.Proofs.YtdpfilpckndhcaaGreatDoor.Rf
