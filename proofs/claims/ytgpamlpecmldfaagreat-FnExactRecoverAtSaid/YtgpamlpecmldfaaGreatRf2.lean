import Derived.Test.YtgpamlpecmldfaaGreatRf1
import Derived.WalkKit
import Derived.Laws.StructEq
import Derived.Laws.BytesArg
set_option linter.all false
open Array renaming ext' → Ub1
open Bool renaming and_eq_true → Qb6, false_eq_true → Rbk, not_eq_true' → Rb0, or_eq_true → Sbv
open List renaming getElem?_eq_some_iff → Qb8, getElem?_eq_getElem → Rba, mem_singleton → Rbb, getElem?_cons_zero → Rbf, mem_cons → Rbg, mem_cons_of_mem → Rbl, mem_of_getElem? → Rbn, mem_cons_self → Rbr, length_take → Rbv, map_cons → Rby, append_nil → Rb1, length_map → Rb4, all_eq_true → Rb6, getElem?_drop → Sba, map_nil → Sbc, getElem?_map → Sbd, getElem?_take → Sbe, length_drop → Sbj, getElem?_cons_succ → Sbl, mem_of_mem_drop → Sbx, length_singleton → Sb3, eq_nil_of_length_eq_zero → Sb5, getElem?_eq_none → Tbl, cons_append → Tbq, map_append → Tb3, mem_of_mem_take → Tb4
open List.cons renaming injEq → Sbz, inj → Ub2
open Nat renaming add_assoc → Rbp, lt_or_ge → Rbu, zero_add → Rb2, beq_eq → Rb3, ble_eq → Sbr
open Option renaming bind_eq_some_iff → Qb5, bind_some → Rbe, map_eq_some_iff → Rbo, map_some → Sbq
open Option.some renaming injEq → Qb7, inj → Rb5
open Prod.mk renaming injEq → Rbx
namespace Go.Proofs.YtgpamlpecmldfaaGreat.Rf
theorem RdM.run_eval {α:Type}{look:Nat->Option aU}{m:RdM α}{x:α}{log:List Nat}(h:m.run look=some (x,log)):m.eval look=some x:=by
 induction m generalizing log with
 | ret a =>
  simp only[RdM.run,Qb7,Rbx]at h;rw[h.1];rfl
 |no=>cases h
 | rd k f ih =>
  simp only[RdM.run,Rbo]at h;obtain⟨⟨y,l⟩,h1,h2⟩:=h;simp only[Rbx]at h2;obtain⟨rfl,_⟩:=h2;exact ih _ h1
theorem RdM.run_same {α:Type}{look xg:Nat->Option aU}{m:RdM α}{x:α}{log:List Nat}(h:m.run look=some (x,log))(hs:∀ k∈log,xg k=look k):m.run xg=some (x,log):=by
 induction m generalizing log with
 |ret a=>exact h
 |no=>cases h
 | rd k f ih =>
  simp only[RdM.run,Rbo]at h ⊢;obtain⟨⟨y,l⟩,h1,h2⟩:=h;simp only[Rbx]at h2;obtain⟨rfl,rfl⟩:=h2;refine⟨(y,l),?_,rfl⟩;rw[hs k Rbr];exact ih _ h1 fun j hj=>hs j (Rbl _ hj)
section
variable {α γ:Type} {look:Nat->Option aU}
theorem aF (a:α):(RdM.ret a).eval look=some a:=rfl
theorem cZ:(RdM.no:RdM α).eval look=none:=rfl
theorem Abh (k:Nat)(f:Option aU->RdM α):(RdM.rd k f).eval look=(f (look k)).eval look:=rfl
theorem aC (m:RdM α)(f:α->RdM γ):(m >>= f).eval look=(m.eval look).bind fun x=>(f x).eval look:=by
 show (RdM.bind m f).eval look=_
 induction m with
 |ret a=>rfl
 |no=>rfl
 |rd k g ih=>exact ih _
theorem aW (k:Nat):(rdK k).eval look=some (look k):=rfl
theorem bA (x:Option α):(pR x).eval look=x:=by cases x<;>rfl
theorem aO (b:Bool):(bZ b).eval look=if b=true then some () else none:=by cases b<;>rfl
theorem iR (c:Bool)(x y:RdM α):(bif c then x else y).eval look=if c=true then x.eval look else y.eval look:=by cases c<;>rfl
end
def Ua4 (cf:Nat->List D->Option (List D))(ρ:List D)(g:Option (aP×Bool))(nv:Nat):Step->Prop
 | .prim p xs n => (gOn ρ g = true -> ∃ ds, p.run (xs.map (·.val ρ)) = some ds /\ ds.length = n /\ ∀ j d, ds[j]? = some d -> (aP.v (nv + j)).val ρ = d) /\
   (gOn ρ g=false->∀ j,j<n->(aP.v (nv+j)).val ρ=.undef)
 | .call f xs n olds => (gOn ρ g = true -> ∃ ds, cf f (xs.map (·.val ρ)) = some ds /\ ds.length = n /\ ∀ j d, ds[j]? = some d -> (aP.v (nv + j)).val ρ = d) /\
   (gOn ρ g=false->∀ j d,(List.replicate (n-olds.length) D.undef++olds.map (·.val ρ))[j]?=some d->(aP.v (nv+j)).val ρ=d)
def aR (cf:Nat->List D->Option (List D))(ρ:List D)(g:Option (aP×Bool)):Nat->List Step->Prop
 |_,[]=>True
 |nv,s::r=>Ua4 cf ρ g nv s/\aR cf ρ g (nv+s.n) r
structure wU (P:Program) (ti:Nat->Option TI):Prop where
 ok:∀ t i,ti t=some i->nL P t=some i
structure dN (P:Program) (t:TypeId) (i:TI) (info:TypeInfo) (u:TypeDesc):Prop where
 info_:P.info? t=some info
 und:P.underlying t=some u
 cells:(flat P 12 t).map (·.map (qD P))=some i.cells
 len:i.cells.length=i.size
 zero:Tai i.agg info.zero i.cells=true
 eq:i=Qbe P t info u i.cells
theorem bD {P:Program}{t:TypeId}{i:TI}(h:nL P t=some i):∃ info u,dN P t i info u:=by
 unfold nL at h
 cases h1:P.info? t with
 |none=>rw[h1]at h;cases h
 | some info =>
  cases h2:P.underlying t with
  |none=>rw[h1,h2]at h;cases h
  | some u =>
   cases h3:(flat P 12 t).map (·.map (qD P)) with
   |none=>rw[h1,h2,h3]at h;cases h
   | some cs =>
    rw[h1,h2,h3]at h;dsimp only at h
    cases hb:(Nat.beq cs.length info.size&&Tai (Jap u) info.zero cs) with
    |false=>rw[hb]at h;cases h
    | true =>
     rw[hb]at h;obtain rfl:=Rb5 h;simp only[Qb6,Rb3]at hb;exact⟨info,u,h1,h2,h3,hb.1,hb.2,rfl⟩
section
variable {P:Program} {t:TypeId} {i:TI} {info:TypeInfo} {u:TypeDesc}
theorem dN.agg (h:dN P t i info u):i.agg=Jap u:=by rw[h.eq];rfl
theorem dN.size (h:dN P t i info u):i.size=info.size:=by rw[h.eq];rfl
theorem dN.elem (h:dN P t i info u):i.elem=Abp u:=by rw[h.eq];rfl
theorem dN.flds (h:dN P t i info u):i.flds=Abd u:=by rw[h.eq];rfl
theorem dN.bytes (h:dN P t i info u):i.bytes=info.bytes:=by rw[h.eq];rfl
theorem dN.ik (h:dN P t i info u):i.ik=Nbr u:=by rw[h.eq];rfl
theorem Pah (h:P.underlying t=some u)(w:World):(Go.isAgg t).run P w=.ok (Jap u) w:=by
 simp only[Go.isAgg,underlying,program,bind,pure,Sem.bind,Sem.run,h];cases u<;>rfl
theorem run_sizeOf (h:P.info? t=some info)(w:World):(Go.sizeOf t).run P w=.ok info.size w:=by
 simp only[Go.sizeOf,typeInfo,program,bind,pure,Sem.bind,Sem.run,h]
theorem run_underlying (h:P.underlying t=some u)(w:World):(Go.underlying t).run P w=.ok u w:=by
 simp only[underlying,program,bind,pure,Sem.bind,Sem.run,h]
theorem dN.isAgg (h:dN P t i info u)(w:World):(Go.isAgg t).run P w=.ok i.agg w:=by rw[Pah h.und,h.agg]
theorem dN.sizeOf (h:dN P t i info u)(w:World):(Go.sizeOf t).run P w=.ok i.size w:=by rw[run_sizeOf h.info_,h.size]
end
theorem D.beq0_eq {a b:D}(h:a.beq0 b=true):a=b:=by
 unfold D.beq0 at h;split at h<;>first|cases h|skip
 ·simp only[Qb6,Nbv,decide_eq_true_eq]at h
  rw[h.1,h.2]
 ·simp only[beq_iff_eq]at h;rw[h]
 ·simp only[beq_iff_eq]at h;rw[h]
 ·simp only[Rb3]at h;rw[h]
 ·rfl
 ·rfl
theorem aP.beq0_eq {a b:aP}(h:a.beq0 b=true):a=b:=by
 unfold aP.beq0 at h;split at h
 ·simp only[Rb3]at h;rw[h]
 ·rw[D.beq0_eq h]
 ·cases h
theorem Sas {g h:Option (aP×Bool)}(e:Ibm g h=true):g=h:=by
 unfold Ibm at e;split at e
 ·rfl
 ·simp only[Qb6,beq_iff_eq]at e
  rw[aP.beq0_eq e.1,e.2]
 ·cases e
section
variable {P:Program} {E:Env} {F:bQ} {σ:Nat->Option aU} {ρ:List D} {a:Act} {w:World} {G:Gh} {g:Option (aP×Bool)}
theorem Gb2 (hg:gOn ρ g=true){v:SV}{u:Value}(h:dI σ ρ G w v u):dI σ ρ G w (unG g v) u:=by
 unfold unG;split
 ·rename_i h' x
  cases e:Ibm g (some h') with
  |false=>exact h
  | true =>
   simp only[dI,aD,cond_true]at h ⊢;exact h.2 (Sas e▸hg)
 ·exact h
theorem Sa2 {ti:Nat->Option TI}{t:TypeId}{v:Value}{sv:SV}(h:Sa3 ti t v=some sv):dI σ ρ G w sv v:=by
 unfold Sa3 at h;split at h
 ·obtain rfl:=Rb5 h;exact .int _ _
 ·obtain rfl:=Rb5 h;exact .bool _
 ·obtain rfl:=Rb5 h
  rename_i s;have:=Sc.str s.data.toList;simpa[dI,aD,aP.val] using this
 ·split at h
  ·obtain rfl:=Rb5 h
   simp only[dI,aD];refine⟨⟨rfl,by simp⟩,fun _=>⟨?_,?_,trivial⟩⟩
   ·exact .rows none ⟨0,0,none⟩ 0 0 _ [] (fun _ _=>undef) rfl (Nat.le_refl _) (.inl rfl) (by simp) (by simp) (by simp)
   ·exact fun _ z _=>trivial
  ·cases h
 ·obtain rfl:=Rb5 h;rfl
 ·cases h
theorem gY (hR:R E.ntmps F σ ρ a w G)(hg:gOn ρ g=true){t:TypeId}{x:Operand}{sv:SV}(h:(Pas E g t x).eval σ=some sv):dI σ ρ G w sv (a.eval x):=by
 cases x with
 | tmp k =>
  simp only[Pas,Abh]at h;split at h
  ·rename_i g' v hk
   rw[iR]at h;split at h
   ·rename_i hb
    simp only[Qb6]at hb;simp only[aF,Qb7]at h;subst h;refine Gb2 hg ?_
    have hg':gOn ρ g'=true:=by
     cases g' with
     |none=>rfl
     |some z=>exact Sas hb.1▸hg
    have:=hR.slot hk hg';unfold Bap at this;rw[if_pos (by simpa using hb.2)]at this;exact this
   ·cases h
  ·cases h
 | const v =>
  simp only[Pas,bA]at h;exact Sa2 h
 |global _=>cases h
 | func f =>
  simp only[Pas,aF,Qb7]at h;subst h;simp only[dI,aD];exact⟨[],rfl,by simp[aH]⟩
theorem gJ (hR:R E.ntmps F σ ρ a w G)(hg:gOn ρ g=true){t:TypeId}{x:Operand}{l:aT}(h:(rdL E g t x).eval σ=some l):aD σ ρ G w l (a.eval x):=by
 simp only[rdL,aC,Qb5]at h;obtain⟨sv,h1,h2⟩:=h;have:=gY hR hg h1;unfold one at h2;split at h2
 ·simp only[aF,Qb7]at h2
  subst h2;exact this
 ·cases h2
theorem lG (hg:gOn ρ g=true){l:aT}{x:aP}{v:Value}(h:wN g l=some x)(hl:aD σ ρ G w l v):Sc v (x.val ρ):=by
 unfold wN at h;split at h
 ·obtain rfl:=Rb5 h
  simpa[aD] using hl
 ·rename_i h' y
  cases e:Ibm g (some h') with
  |false=>rw[e]at h;cases h
  | true =>
   rw[e]at h;obtain rfl:=Rb5 h;simp only[aD]at hl;exact hl.2 (Sas e▸hg)
 ·cases h
theorem kL (hR:R E.ntmps F σ ρ a w G)(hg:gOn ρ g=true){t:TypeId}{x:Operand}{y:aP}(h:(rdA E g t x).eval σ=some y):Sc (a.eval x) (y.val ρ):=by
 simp only[rdA,aC,Qb5,bA]at h;obtain⟨l,h1,h2⟩:=h;exact lG hg h2 (gJ hR hg h1)
end
def Nx (n:Nat)(F:bQ)(σ:Nat->Option aU)(ρ:List D)(u:List (Nat×aU))(a:Act)(w:World):Prop:=∃ G,R n F (upds σ u) ρ a w G
def gG (n:Nat)(o:Oper):Prop:=∀ d,o.dst=some d->d<n
section
variable {P:Program} {E:Env} {F:bQ} {σ:Nat->Option aU} {ρ:List D} {a:Act} {w w':World} {G:Gh} {g:Option (aP×Bool)} {o:Oper} {cf:Nat->List D->Option (List D)} {Q:Exit->Act->World->Prop} {next:Act->World->Prop}
theorem pK {v:Value}(h:(execOp a.eval o).run P w=.ok (.value v) w')(hn:next (a.put o.dst v) w'):o.wp P a w next Q:=by
 unfold Oper.wp;rw[h];exact hn
theorem Taj (h:(execOp a.eval o).run P w=.ok .skip w')(hn:next (a.put o.dst undef) w'):o.wp P a w next Q:=by
 unfold Oper.wp;rw[h];exact hn
theorem Ma3 (hR:R E.ntmps F σ ρ a w G)(hd:gG E.ntmps o)(hg:gOn ρ g=true){v:Value}{nv:Nat}(h:(execOp a.eval o).run P w=.ok (.value v) w)
  (hv:Sc v ((aP.v nv).val ρ)):o.wp P a w (Nx E.ntmps F σ ρ (eO o none (mkS g (.v nv)))) Q:=by
 refine pK h ⟨G,hR.pure o hd none _ v fun _=>?_⟩
 cases g with
 |none=>exact hv
 | some z =>
  simp only[mkS,dI,aD];exact⟨.inl hv,fun _=>hv⟩
theorem Hbz (hR:R E.ntmps F σ ρ a w G)(hd:gG E.ntmps o)(hg:gOn ρ g=false){nv:Nat}(hv:(aP.v nv).val ρ=.undef) :
  Nx E.ntmps F σ ρ (eO o none (mkS g (.v nv))) (a.put o.dst undef) w:=by
 refine⟨G,hR.pure o hd none _ undef fun _=>?_⟩
 cases g with
 |none=>cases hg
 | some z =>
  simp only[mkS,dI,aD];exact⟨.inr ⟨trivial,hv⟩,fun h=>by rw[h]at hg;cases hg⟩
theorem Mbk (hR:R E.ntmps F σ ρ a w G)(hd:gG E.ntmps o)(hg:gOn ρ g=false){sv:SV} :
  Nx E.ntmps F σ ρ (eO o g sv) (a.put o.dst undef) w:=⟨G,hR.pure o hd g _ undef fun h=>by rw[h]at hg;cases hg⟩
def iL (P:Program)(E:Env)(F:bQ)(σ:Nat->Option aU)(ρ:List D)(a:Act)(w:World)(g:Option (aP×Bool))(o:Oper)(Q:Exit->Act->World->Prop)(u:List (Nat×aU)):Prop :=
 (gOn ρ g=true->o.wp P a w (Nx E.ntmps F σ ρ u) Q)/\(gOn ρ g=false->Nx E.ntmps F σ ρ u (a.put o.dst undef) w)
theorem step1 {p:aS}{xs:List aP}{nv n:Nat}(h:aR cf ρ g nv [.prim p xs n])(hg:gOn ρ g=true) :
  ∃ ds,p.run (xs.map (·.val ρ))=some ds/\ds.length=n/\∀ j d,ds[j]?=some d->(aP.v (nv+j)).val ρ=d:=h.1.1 hg
theorem gW {p:aS}{xs:List aP}{nv:Nat}(h:aR cf ρ g nv [.prim p xs 1])(hg:gOn ρ g=true) :
  ∃ d,p.run (xs.map (·.val ρ))=some [d]/\(aP.v nv).val ρ=d:=by
 obtain⟨ds,h1,h2,h3⟩:=step1 h hg
 match ds,h2 with
 |[d],_=>exact⟨d,h1,h3 0 d rfl⟩
theorem Hah {p:aS}{xs:List aP}{nv:Nat}(h:aR cf ρ g nv [.prim p xs 1])(hg:gOn ρ g=false):(aP.v nv).val ρ=.undef:=h.1.2 hg 0 (by omega)
theorem Gab (o:Oper)(g:Option (aP×Bool))(v:SV):(match o.dst with|some d=>[(kT d,aU.slot g v)]|none=>[])=eO o g v:=rfl
theorem dR (hR:R E.ntmps F σ ρ a w G)(hd:gG E.ntmps o){nv:Nat}{p:aS}{xs:List aP}{res:cK}
  (h:(vI o g nv p xs).eval σ=some res) (hs:aR cf ρ g nv res.lets)
  (hv:gOn ρ g=true->∀ d,p.run (xs.map (·.val ρ))=some [d]->∃ v,Sc v d/\(execOp a.eval o).run P w=.ok (.value v) w):iL P E F σ ρ a w g o Q res.upd:=by
 simp only[vI,aF,Qb7]at h;subst h;simp only[Gab];refine⟨fun hg=>?_,fun hg=>Hbz hR hd hg (Hah hs hg)⟩;obtain⟨d,h1,h2⟩:=gW hs hg;obtain⟨v,h3,h4⟩:=hv hg d h1;exact Ma3 hR hd hg h4 (h2▸h3)
theorem dZ (hR:R E.ntmps F σ ρ a w G)(hd:gG E.ntmps o){lets:List Step}{sv:SV}{res:cK}{nv:Nat}
  (h:(vJ o g lets sv []).eval σ=some res) (hs:aR cf ρ g nv res.lets)
  (hv:gOn ρ g=true->aR cf ρ g nv lets->∃ v,dI σ ρ G w sv v/\(execOp a.eval o).run P w=.ok (.value v) w):iL P E F σ ρ a w g o Q res.upd:=by
 simp only[vJ,aF,Qb7]at h;subst h;simp only[Gab,Rb1];refine⟨fun hg=>?_,fun hg=>Mbk hR hd hg⟩;obtain⟨v,h1,h2⟩:=hv hg hs;exact pK h2 ⟨G,hR.pure o hd g _ v fun _=>h1⟩
theorem zF (hR:R E.ntmps F σ ρ a w G)(hd:gG E.ntmps o){sv:SV}{res:cK}{nv:Nat}
  (h:(Zab o g nv sv).eval σ=some res) (hs:aR cf ρ g nv res.lets)
  (hv:gOn ρ g=true->∃ v,dI σ ρ G w sv v/\(execOp a.eval o).run P w=.ok (.value v) w):iL P E F σ ρ a w g o Q res.upd:=by
 unfold Zab at h;split at h
 ·rename_i z l
  split at h
  ·rename_i x hx
   refine dR hR hd h hs fun hg d hp=>?_
   obtain⟨v,h1,h2⟩:=hv hg;simp only[aS.run,Rby,Sbc,Qb7,Sbz,and_true]at hp;exact⟨v,hp▸lG hg hx h1,h2⟩
  ·exact dZ hR hd h hs fun hg _=>hv hg
 ·exact dZ hR hd h hs fun hg _=>hv hg
theorem gT {s:Sem Value}{v:Value}(h:s.run P w=.ok v w'):(do pure (Next.value (<- s)):Sem Next).run P w=.ok (.value v) w':=by
 simp only[Sem.run_bind,h,Result.andThen_ok,Sem.run_pure]
theorem Ja6 (hR:R E.ntmps F σ ρ a w G)(hd:gG E.ntmps o){nv:Nat}{x:Operand}(ho:o.op=.move x\/o.op=.assign x){res:cK}
  (h:(do Zab o g nv (<- Pas E g o.type x):RdM cK).eval σ=some res) (hs:aR cf ρ g nv res.lets):iL P E F σ ρ a w g o Q res.upd:=by
 simp only[aC,Qb5]at h;obtain⟨sv,h1,h2⟩:=h;refine zF hR hd h2 hs fun hg=>⟨a.eval x,gY hR hg h1,?_⟩
 rcases ho with ho|ho<;>(unfold execOp;rw[ho];rfl)
theorem Sc.int_inv {v:Value}{k:IntKind}{n:Int}(h:Sc v (.int k n)):v=.int k n:=by cases h;rfl
theorem Sc.bool_inv {v:Value}{b:Bool}(h:Sc v (.bool b)):v=.bool b:=by cases h;rfl
theorem Sc.str_inv {v:Value}{l:List UInt8}(h:Sc v (.str l)):v=.string ⟨l.toArray⟩:=by cases h;rfl
theorem Kag (hR:R E.ntmps F σ ρ a w G)(hg:gOn ρ g=true){z:aP×Bool}{t:TypeId}{x:Operand}{y:aP}(h:(Kah E g z t x).eval σ=some y)(hz:gOn ρ (some z)=true):Sc (a.eval x) (y.val ρ):=by
 simp only[Kah,aC,Qb5]at h;obtain⟨l,h1,h2⟩:=h;have hl:=gJ hR hg h1;split at h2
 ·rename_i b hb
  simp only[aF,Qb7]at h2;subst h2;exact lG hg hb hl
 ·simp only[bA]at h2
  exact lG hz h2 hl
theorem Vam (hR:R E.ntmps F σ ρ a w G)(hd:gG E.ntmps o){nv:Nat}{c x y:Operand}(ho:o.op=.pick c x y){res:cK}
  (h:(do
   let c <- rdA E g 0 c
   let a <- Kah E g (c,true) o.type x
   let b <- Kah E g (c,false) o.type y
   vI o g nv .pick [c,a,b]:RdM cK).eval σ=some res) (hs:aR cf ρ g nv res.lets):iL P E F σ ρ a w g o Q res.upd:=by
 simp only[aC,Qb5]at h;obtain⟨c',h1,x',h2,y',h3,h4⟩:=h;refine dR hR hd h4 hs fun hg d hp=>?_
 have hc:=kL hR hg h1;simp only[Rby,Sbc]at hp;generalize hcv:c'.val ρ=cv at hp hc
 cases cv with
 | bool b =>
  simp only[aS.run,Qb7,Sbz,and_true]at hp;have e:a.eval c=.bool b:=hc.bool_inv;refine⟨if b then a.eval x else a.eval y,?_,?_⟩
  ·cases b with
   | true =>
    rw[if_pos rfl]at hp ⊢;exact hp▸Kag hR hg h2 (by simp[gOn,hcv])
   | false =>
    simp only[Rbk,if_false]at hp ⊢;exact hp▸Kag hR hg h3 (by simp[gOn,hcv])
  ·unfold execOp
   simp only[ho,e];simp only[asBool,Sem.run_bind,Sem.run_pure,Result.andThen_ok]
 |_=>simp[aS.run]at hp
theorem toList_mk (l:List UInt8):(⟨l.toArray⟩:ByteArray).toList=l:=by
 rw[ByteArray.toList_eq]
theorem size_mk (l:List UInt8):(⟨l.toArray⟩:ByteArray).size=l.length:=rfl
theorem Bbg (x y:List UInt8):(⟨x.toArray⟩:ByteArray)++(⟨y.toArray⟩:ByteArray)=⟨(x++y).toArray⟩:=by
 apply ByteArray.ext;rw[ByteArray.data_append];simp
theorem Vau {op:BinOp}{t:TypeId}{k k':IntKind}{x y:Int}{d:D}(h:Rad op (.int k x) (.int k' y)=some d) :
    ∃ v,Sc v d/\(binOp op t (.int k x) (.int k' y)).run P w=.ok v w:=by
  unfold Rad at h;dsimp only at h
  cases op<;>dsimp only at h<;>first
    | (simp only [Xap] at h
       split at h
       · cases h
       · rename_i hy
         obtain rfl:=Rb5 h;exact⟨_,.int _ _,by simp[binOp,Op.shift,hy]⟩)
    | (split at h
       · rename_i hk
         subst hk;simp only[Ca7]at h
         first
         | (obtain rfl := Rb5 h
            first
            |exact⟨_,.int _ _,by simp[binOp,Op.intArith,Op.intBits]⟩
            |exact⟨_,.bool _,by simp[binOp,Op.intCmp]⟩)
         | (split at h
            · cases h
            · rename_i hy
              obtain rfl:=Rb5 h;exact⟨_,.int _ _,by simp[binOp,Op.intDiv,hy]⟩)
         |cases h
       · cases h)
theorem Vat {op:BinOp}{t:TypeId}{x y:List UInt8}{d:D}(h:Rad op (.str x) (.str y)=some d) :
    ∃ v,Sc v d/\(binOp op t (.string ⟨x.toArray⟩) (.string ⟨y.toArray⟩)).run P w=.ok v w:=by
  simp only[Rad,Jbt]at h;have a4l:IntKind.i64.max=9223372036854775807:=by decide
  cases op<;>dsimp only at h<;>first
    | (obtain rfl := Rb5 h
       exact⟨_,.bool _,by simp[binOp,Op.stringOp,toList_mk]⟩)
    | (split at h
       · rename_i hl
         obtain rfl:=Rb5 h;refine⟨_,.str _,?_⟩;simp only[binOp,Op.stringOp,size_mk,Bbg,a4l];rw[if_neg (by omega)];rfl
       · cases h)
    |cases h
theorem Hbs {op:BinOp}{t:TypeId}{vx vy:Value}{dx dy d:D}(hx:Sc vx dx)(hy:Sc vy dy)(h:Rad op dx dy=some d) :
  ∃ v,Sc v d/\(binOp op t vx vy).run P w=.ok v w:=by
 cases hx<;>cases hy<;>first|exact Vau h|exact Vat h|(simp[Rad]at h)
theorem Wag {op:BinOp}{t:TypeId}{x y:Operand}{vx vy:Value}{dx dy:D}(hx:Sc vx dx)(hy:Sc vy dy):(eqGuard op t x y vx vy).run P w=.ok () w:=by
 cases hx<;>cases hy<;>(unfold eqGuard;cases op<;>simp)
theorem Paa (hR:R E.ntmps F σ ρ a w G)(hd:gG E.ntmps o){nv:Nat}{op:BinOp}{t ty:TypeId}{x y:Operand}(ho:o.op=.binOp op t x y ty){res:cK}
  {x' y':aP} (h1:gOn ρ g=true->Sc (a.eval x) (x'.val ρ)) (h2:gOn ρ g=true->Sc (a.eval y) (y'.val ρ))
  (h:(vI o g nv (.bin op) [x',y']).eval σ=some res) (hs:aR cf ρ g nv res.lets):iL P E F σ ρ a w g o Q res.upd:=by
 refine dR hR hd h hs fun hg d hp=>?_
 simp only[Rby,Sbc,aS.run,Rbo,Sbz,and_true]at hp;obtain⟨d',hp,rfl⟩:=hp;obtain⟨v,h3,h4⟩:=Hbs (P:=P) (w:=w) (t:=t) (h1 hg) (h2 hg) hp;refine⟨v,h3,?_⟩;unfold execOp;simp only[ho];refine gT ?_;rw[Sem.run_bind,Wag (h1 hg) (h2 hg)];exact h4
theorem Ebc (hR:R E.ntmps F σ ρ a w G)(hd:gG E.ntmps o){nv:Nat}{op:UnOp}{t:TypeId}{x:Operand}(ho:o.op=.unOp op t x){res:cK}
  (h:(do
   let a <- rdA E g 0 x
   match op with
   |.not=>vI o g nv .not [a]
   |.neg=>vI o g nv .neg [a]
   |.xor=>vI o g nv .inv [a]
   |_=>.no:RdM cK).eval σ=some res) (hs:aR cf ρ g nv res.lets):iL P E F σ ρ a w g o Q res.upd:=by
 simp only[aC,Qb5]at h;obtain⟨x',h1,h2⟩:=h;split at h2
 ·refine dR hR hd h2 hs fun hg d hp=>?_
  have hx:=kL hR hg h1;simp only[Rby,Sbc]at hp;generalize x'.val ρ=xv at hp hx;cases xv<;>simp only[aS.run]at hp<;>first|cases hp|skip
  rename_i b;exact⟨_,.bool _,by unfold execOp;simp only[ho,hx.bool_inv];rfl⟩
 ·refine dR hR hd h2 hs fun hg d hp=>?_
  have hx:=kL hR hg h1;simp only[Rby,Sbc]at hp;generalize x'.val ρ=xv at hp hx;cases xv<;>simp only[aS.run]at hp<;>first|cases hp|skip
  exact⟨_,.int _ _,by unfold execOp;simp only[ho,hx.int_inv];rfl⟩
 ·refine dR hR hd h2 hs fun hg d hp=>?_
  have hx:=kL hR hg h1;simp only[Rby,Sbc]at hp;generalize x'.val ρ=xv at hp hx;cases xv<;>simp only[aS.run,Ca7,Sbq,Qb7,Sbz,and_true]at hp<;>first|cases hp|skip
  exact⟨_,.int _ _,by unfold execOp;simp only[ho,hx.int_inv];rfl⟩
 ·cases h2
theorem Vao (hR:R E.ntmps F σ ρ a w G)(hd:gG E.ntmps o)(hti:wU P E.ti){nv:Nat}{src dst:TypeId}{x:Operand}(ho:o.op=.convert src dst x){res:cK}{s d:TI}{k:IntKind}
  (ky:E.ti src=some s) (gk:s.ik.isSome=true) (iy:E.ti dst=some d) (hk:d.ik=some k) {x':aP} (h1:(rdA E g src x).eval σ=some x')
  (h:(vI o g nv (.conv k) [x']).eval σ=some res) (hs:aR cf ρ g nv res.lets):iL P E F σ ρ a w g o Q res.upd:=by
 refine dR hR hd h hs fun hg e hp=>?_
 have hx:=kL hR hg h1;simp only[Rby,Sbc]at hp;generalize x'.val ρ=xv at hp hx;cases xv<;>simp only[aS.run]at hp<;>first|cases hp|skip
 rename_i k0 n;obtain⟨i1,u1,f1⟩:=bD (hti.ok _ _ ky);obtain⟨i2,u2,f2⟩:=bD (hti.ok _ _ iy)
 have e2:u2=.int k:=by
  have:=f2.ik.symm.trans hk;unfold Nbr at this;split at this
  ·rw[Rb5 this]
  ·cases this
 subst e2;refine⟨_,.int _ _,?_⟩;unfold execOp;simp only[ho,hx.int_inv];refine gT ?_;simp only[convert,Sem.run_bind,run_underlying f1.und,run_underlying f2.und,Result.andThen_ok];rfl
end
section
variable {P:Program} {E:Env} {F:bQ} {σ:Nat->Option aU} {ρ:List D} {a:Act} {w w':World} {G:Gh} {g:Option (aP×Bool)} {o:Oper} {cf:Nat->List D->Option (List D)} {Q:Exit->Act->World->Prop} {next:Act->World->Prop}
def Nam (σ:Nat->Option aU)(r k:Nat):Prop:=∃ m,Aac σ r k m
theorem jX:∀ {deps ds:List (Nat×Nat)},(xI deps).eval σ=some ds ->
  (∀ z∈deps,nK σ z.1 z.2)/\(∀ z∈ds,z∈deps/\Nam σ z.1 z.2)/\∀ z∈deps,z∈ds\/∃ x m,σ (kR z.1)=some (.root x m z.2 .frozen)
 | [], ds, h => by
  simp only[xI,aF,Qb7]at h;subst h;simp
 | (r, k) :: rest, ds, h => by
  simp only[xI,aC,aW,Rbe]at h;split at h
  ·rename_i x m cQ st hk
   simp only[aC,Qb5]at h;obtain⟨ir,h1,h2⟩:=h;obtain⟨h3,h4,h5⟩:=jX h1;split at h2
   ·rw[iR]at h2
    split at h2
    ·rename_i e
     simp only[Rb3]at e;simp only[aF,Qb7]at h2;subst h2 e;refine⟨fun z hz=>?_,fun z hz=>⟨Rbl _ (h4 z hz).1,(h4 z hz).2⟩,fun z hz=>?_⟩
     ·rcases Rbg.1 hz with rfl|hz
      ·exact⟨x,m,.frozen,hk,.inr rfl⟩
      ·exact h3 z hz
     ·rcases Rbg.1 hz with rfl|hz
      ·exact .inr ⟨x,m,hk⟩
      ·exact h5 z hz
    ·cases h2
   ·rw[iR]at h2
    split at h2
    ·rename_i e
     simp only[Rb3]at e;simp only[aF,Qb7]at h2;subst h2 e;refine⟨fun z hz=>?_,fun z hz=>?_,fun z hz=>?_⟩
     ·rcases Rbg.1 hz with rfl|hz
      ·exact⟨x,m,.live,hk,.inl rfl⟩
      ·exact h3 z hz
     ·rcases Rbg.1 hz with rfl|hz
      ·exact⟨Rbr,m,x,hk⟩
      ·exact⟨Rbl _ (h4 z hz).1,(h4 z hz).2⟩
     ·rcases Rbg.1 hz with rfl|hz
      ·exact .inl Rbr
      ·exact (h5 z hz).imp (Rbl _) id
    ·cases h2
   ·cases h2
  ·cases h
theorem Rd.drop (hR:R E.ntmps F σ ρ a w G){deps ds:List (Nat×Nat)}(h:∀ z∈deps,z∈ds\/∃ x m,σ (kR z.1)=some (.root x m z.2 .frozen)){v:Value}{d:D}
  (hv:Rd (allow G deps) w v d):Rd (allow G ds) w v d:=by
 refine hv.mono fun b hb=>⟨?_,rfl⟩
 rcases hb with hb|⟨r,k,p,hm,hb⟩
 ·exact .inl hb
 ·rcases h (r,k) hm with h1|⟨x,m,h1⟩
  ·exact .inr ⟨r,k,p,h1,hb⟩
  ·exact absurd hb ((hR.root h1).2 b p)
def wR (σ:Nat->Option aU)(ρ:List D)(G:Gh)(w:World)(s:SlR)(v:Value):Prop :=
 match s.own with
 |none=>True
 | some (r, k, m, p) => s.deps = [(r, k)] /\ Aac σ r k m /\ match p with
  |.no=>True
  |.view=>Rp G.own w r [] m v (s.x.val ρ)
  |.suf sz lo=>Gbx (G.hdr r) v sz (mO ρ lo)
  |.path q=>q.length<=m/\Rp G.own w r (bG ρ q) (m-q.length) v (s.x.val ρ)/\Aaf G.own w r [] (G.hdr r) (bG ρ q) v
structure Was (σ:Nat->Option aU) (ρ:List D) (G:Gh) (w:World) (s:SlR) (v:Value):Prop where
 rd:Rd (allow G s.deps) w v (s.x.val ρ)
 live:∀ z∈s.deps,Nam σ z.1 z.2
 nie:s.nie=true->∀ z,s.x.val ρ=.rows z []->v=.slice none 0 0
 own:wR σ ρ G w s v
theorem eT (hR:R E.ntmps F σ ρ a w G){l:aT}{s:SlR}(h:(zH l).eval σ=some s){v:Value}(hl:aD σ ρ G w l v):Was σ ρ G w s v:=by
 unfold zH at h;split at h
 ·rename_i r
  simp only[aD]at hl;simp only[aC,aW,Rbe]at h;split at h
  ·rename_i x m cQ hk
   simp only[aF,Qb7]at h;subst h;have hr:=hR.root hk;simp only[dB]at hr;rw[<- hl.1]at hr;refine⟨hr.rd.mono fun b hb=>⟨hb.imp id fun ⟨q,hq⟩=>⟨r,cQ,q,by simp,hq⟩,rfl⟩,?_,by simp,?_⟩
   ·intro z hz
    simp only[Rbb]at hz;subst hz;exact⟨m,x,hk⟩
   ·refine⟨rfl,⟨x,hk⟩,Nat.zero_le _,by simpa[bG] using hr,?_⟩
    simp only[bG,Sbc,Aaf];exact hl.1
  ·rename_i x m cQ hk
   simp only[aF,Qb7]at h;subst h;have hr:=(hR.root hk).1;rw[<- hl.1]at hr;exact⟨hr.mono fun b hb=>⟨.inl hb,rfl⟩,by simp,by simp,trivial⟩
  ·cases h
 ·rename_i deps p nie x
  simp only[aD]at hl;simp only[aC,Qb5]at h;obtain⟨ds,h1,h2⟩:=h;obtain⟨h3,h4,h5⟩:=jX h1;obtain⟨h6,h7,h8⟩:=hl.2 h3;have h9:=h6.drop hR h5;split at h2
  ·simp only[aF,Qb7]at h2
   subst h2;exact⟨h9,fun z hz=>(h4 z hz).2,h7,trivial⟩
  ·rename_i r k z dz
   simp only[aC,aW,Rbe]at h2;split at h2
   ·rename_i x' m cQ hk
    simp only[aF,Qb7]at h2;subst h2;have hz:=(h4 z (by simp)).1;simp only[Rbb]at hz;subst hz;have je:Nam σ r k:=(h4 (r,k) (by simp)).2;obtain⟨m',x'',kd⟩:=je;rw[hk]at kd;obtain⟨rfl,rfl,rfl⟩:x'=x''/\m=m'/\cQ=k:=by injection kd with kd;injection kd with a b c d;exact⟨a,b,c⟩
    refine⟨h9,fun z hz=>(h4 z hz).2,h7,rfl,⟨x',hk⟩,?_⟩
    cases p with
    |no=>trivial
    |view=>exact h8 r cQ m rfl ⟨x',hk⟩
    |path q=>exact h8 r cQ m rfl ⟨x',hk⟩
    |suf sz lo=>exact h8 r cQ m rfl ⟨x',hk⟩
   ·cases h2
  ·simp only[aF,Qb7]at h2
   subst h2;exact⟨h9,fun z hz=>(h4 z hz).2,h7,trivial⟩
 ·cases h
theorem Rd.inv {ok:Nat->Prop}{v:Value}{sz:Nat}{rs:List (List D)}(h:Rd ok w v (.rows sz rs)) :
  ∃ (A:Option Addr) (a:Addr) (n c:Nat) (vs:Nat->Nat->Value),v=.slice A n c/\rs.length=n/\n<=c/\(n=0\/A=some a)/\(∀ r∈rs,r.length=sz) /\
   (∀ i r,rs[i]?=some r->∀ j d,r[j]?=some d->ok a.block/\w.cell? (a.add (i*sz+j))=some (vs i j)) /\
   (∀ i r,rs[i]?=some r->∀ j d,r[j]?=some d->Rd ok w (vs i j) d):=by
 cases h with
 |sc h=>cases h
 |rows A a n c sz rs vs hn hc hA ej cV dq=>exact⟨A,a,n,c,vs,rfl,hn,hc,hA,ej,cV,dq⟩
theorem sQ {t:TypeId}{i:TI}{info:TypeInfo}{u:TypeDesc}{e:Nat}(f:dN P t i info u)(h:i.elem=some e):u=.slice e:=by
 have:=f.elem.symm.trans h;unfold Abp at this;split at this
 ·rw[Rb5 this]
 ·cases this
theorem Iau {t:TypeId}{i:TI}{info:TypeInfo}{u:TypeDesc}(f:dN P t i info u)(h:i.elem.isSome=true):∃ e,u=.slice e:=by
 cases e:i.elem with
 |none=>rw[e]at h;cases h
 |some e'=>exact⟨e',sQ f e⟩
theorem Da9 {t:TypeId}{i:TI}{info:TypeInfo}{u:TypeDesc}(f:dN P t i info u)(h:i.isStr=true):u=.string:=by
 have:Zau u=true:=by rw[<- h,f.eq];rfl
 unfold Zau at this;split at this
 ·rfl
 ·cases this
theorem Na2 {t:TypeId}{i:TI}{info:TypeInfo}{u:TypeDesc}(f:dN P t i info u){k off ft:Nat}(h:i.flds[k]?=some (off,ft)) :
  ∃ fs fd,u=.struct fs/\fs[k]?=some fd/\fd.offset=off/\fd.type=ft:=by
 rw[f.flds]at h;unfold Abd at h;split at h
 ·rename_i fs
  simp only[Sbd,Rbo,Rbx]at h;obtain⟨fd,h1,h2,h3⟩:=h;exact⟨fs,fd,rfl,by simpa using h1,h2,h3⟩
 ·simp at h
theorem Oad {α:Type}{as:Array α}{x:α}(h:as.toList=[x]):as=#[x]:=by
 apply Ub1;simpa using h
theorem Fbv {α:Type}{as:Array α}{x y:α}(h:as.toList=[x,y]):as=#[x,y]:=by
 apply Ub1;simpa using h
theorem nO {b:Builtin}{args:Array Operand}{argTypes:Array TypeId}{s:Sem Value}{v:Value}(ho:o.op=.call { callee:=.builtin b,args,argTypes })
  (hb:∀ consts,builtin b argTypes o.type consts (args.map a.eval)=(do pure (.value (<- s)))) (h:s.run P w=.ok v w'):(execOp a.eval o).run P w=.ok (.value v) w':=by
 unfold execOp;simp only[ho,resolve,Sem.run_bind,Sem.run_pure,Result.andThen_ok,invoke,hb];rw[h];rfl
theorem San {α γ:Type}(f:α->γ)(x:α):Array.map f #[x]=#[f x]:=by simp
theorem Hb6 {α γ:Type}(f:α->γ)(x y:α):Array.map f #[x,y]=#[f x,f y]:=by simp
theorem Sad {t ty:TypeId}{argTypes:Array TypeId}(ht:argTypes[0]?=some t)(hu:P.underlying t=some .string)(s:ByteArray) :
  (Builtin.len_ argTypes ty #[.string s]).run P w=.ok (.int .i64 s.size) w:=by
 simp[Builtin.len_,ht,run_underlying hu,goInt]
theorem run_len_slice {t ty e:TypeId}{argTypes:Array TypeId}(ht:argTypes[0]?=some t)(hu:P.underlying t=some (.slice e))(A:Option Addr)(n c:Nat) :
  (Builtin.len_ argTypes ty #[.slice A n c]).run P w=.ok (.int .i64 n) w:=by
 simp[Builtin.len_,ht,run_underlying hu,goInt]
theorem Xan (hR:R E.ntmps F σ ρ a w G)(hd:gG E.ntmps o)(hti:wU P E.ti){nv:Nat}{args:Array Operand}{argTypes:Array TypeId}
  (ho:o.op=.call { callee:=.builtin .len,args,argTypes }) {x:Operand} (hx:args.toList=[x]) {t:TypeId} (ht:argTypes[0]?=some t) {ti:TI} (hi:E.ti t=some ti) {res:cK}
  (h:(do
   let l <- rdL E g t x
   match wN g l with
   | some a => do
    bZ ti.isStr
    vI o g nv .slen [a]
   | none => do
    bZ ti.elem.isSome
    let s <- zH l
    vI o g nv .len [s.x]:RdM cK).eval σ=some res) (hs:aR cf ρ g nv res.lets):iL P E F σ ρ a w g o Q res.upd:=by
 obtain⟨info,u,f⟩:=bD (hti.ok _ _ hi);simp only[aC,Qb5]at h;obtain⟨l,h1,h2⟩:=h;split at h2
 ·rename_i y hy
  simp only[aC,aO,Qb5]at h2;obtain⟨_,h3,h4⟩:=h2;split at h3
  ·rename_i a7l
   obtain rfl:=Da9 f a7l;refine dR hR hd h4 hs fun hg d hp=>?_
   have hv:=lG hg hy (gJ hR hg h1);simp only[Rby,Sbc]at hp;generalize y.val ρ=yv at hp hv;cases yv<;>simp only[aS.run]at hp<;>first|cases hp|skip
   rename_i s;refine⟨_,.int _ _,nO ho (fun _=>rfl) ?_⟩;have e:=Sad (P:=P) (w:=w) (ty:=o.type) ht f.und ⟨s.toArray⟩;rw[<- hv.str_inv]at e;rw[Oad hx,San];exact e
  ·cases h3
 ·rename_i hy
  simp only[aC,aO,Qb5]at h2;obtain⟨_,h3,s,h4,h5⟩:=h2;split at h3
  ·rename_i hel
   obtain⟨e,rfl⟩:=Iau f hel;refine dR hR hd h5 hs fun hg d hp=>?_
   have hv:=(eT hR h4 (gJ hR hg h1)).rd;simp only[Rby,Sbc]at hp;generalize s.x.val ρ=yv at hp hv;cases yv<;>simp only[aS.run]at hp<;>first|cases hp|skip
   rename_i sz rs;obtain⟨A,b,n,c,vs,e1,e2,-⟩:=hv.inv;refine⟨_,.int _ _,nO ho (fun _=>rfl) ?_⟩;have e:=run_len_slice (P:=P) (w:=w) (ty:=o.type) ht f.und A n c;rw[<- e1]at e;rw[Oad hx,e2,San];exact e
  ·cases h3
theorem aH.len {ls:List aT}:∀ {vs:List Value},aH σ ρ G w ls vs->vs.length=ls.length:=by
 induction ls with
 |nil=>intro vs h;simp only[aH]at h;simp[h]
 | cons l ls ih =>
  intro vs h;simp only[aH]at h;obtain⟨u,us,rfl,_,h2⟩:=h;simp[ih h2]
theorem aH.get {ls:List aT}:∀ {vs:List Value} {i:Nat} {l:aT},aH σ ρ G w ls vs->ls[i]?=some l->∃ v,vs[i]?=some v/\aD σ ρ G w l v:=by
 induction ls with
 |nil=>intro vs i l h hi;simp at hi
 | cons l0 ls ih =>
  intro vs i l h hi;simp only[aH]at h;obtain⟨u,us,rfl,h1,h2⟩:=h
  cases i with
  | zero =>
   simp only[Rbf,Qb7]at hi;subst hi;exact⟨u,rfl,h1⟩
  | succ i =>
   simp only[Sbl]at hi ⊢;exact ih h2 hi
theorem aH.of_get {ls:List aT}:∀ {vs:List Value},vs.length=ls.length->(∀ (i:Nat) (l:aT) (v:Value),ls[i]?=some l->vs[i]?=some v->aD σ ρ G w l v)->aH σ ρ G w ls vs:=by
 induction ls with
 |nil=>intro vs h _;simp only[aH];exact Sb5 h
 | cons l0 ls ih =>
  intro vs h hg
  cases vs with
  |nil=>simp at h
  | cons u us =>
   simp only[aH];exact⟨u,us,rfl,hg 0 l0 u rfl rfl,ih (by simpa using h) fun i l v hi hv=>hg (i+1) l v hi hv⟩
theorem aH.drop {ls:List aT}{vs:List Value}(k:Nat)(h:aH σ ρ G w ls vs):aH σ ρ G w (ls.drop k) (vs.drop k):=by
 refine .of_get (by simp[h.len]) fun i l v hi hv=>?_
 rw[Sba]at hi hv;obtain⟨v',h1,h2⟩:=h.get hi;rw[h1]at hv;exact Rb5 hv▸h2
theorem aH.take {ls:List aT}{vs:List Value}(k:Nat)(h:aH σ ρ G w ls vs):aH σ ρ G w (ls.take k) (vs.take k):=by
 refine .of_get (by simp[h.len]) fun i l v hi hv=>?_
 rw[Sbe]at hi hv;split at hi
 ·rename_i hk
  rw[if_pos hk]at hv;obtain⟨v',h1,h2⟩:=h.get hi;rw[h1]at hv;exact Rb5 hv▸h2
 ·cases hi
theorem uY {agg:Bool}{ls:List aT}{sv:SV}(h:Tat agg ls=some sv){vs:List Value}(hl:aH σ ρ G w ls vs){v:Value}
  (hv:if agg=true then v=.agg vs.toArray else vs=[v]):dI σ ρ G w sv v:=by
 unfold Tat at h
 cases agg with
 | true =>
  simp only[cond_true,Qb7]at h;subst h;exact⟨vs,by simpa using hv,hl⟩
 | false =>
  simp only[cond_false]at h;split at h
  ·simp only[Qb7]at h
   subst h;simp only[Rbk,if_false]at hv;subst hv;simp only[aH]at hl;obtain⟨u,us,e,h1,-⟩:=hl;obtain⟨rfl,-⟩:=Ub2 e;exact h1
  ·cases h
theorem Ra5 (hR:R E.ntmps F σ ρ a w G)(hd:gG E.ntmps o)(hti:wU P E.ti){nv:Nat}{t:TypeId}{x:Operand}{k:Nat}(ho:o.op=.field t x k){ti fi:TI}{off ft:Nat}
  (hi:E.ti t=some ti) (hf:ti.flds[k]?=some (off,ft)) (hfi:E.ti ft=some fi) {res:cK}
  (h:(do
   match <- Pas E g t x with
   | .agg ls => do
    bZ (Nat.ble (off+fi.size) ls.length&&Nat.beq ls.length ti.size)
    match Tat fi.agg ((ls.drop off).take fi.size) with
    |some v=>Zab o g nv v
    |none=>.no
   |_=>.no:RdM cK).eval σ=some res) (hs:aR cf ρ g nv res.lets):iL P E F σ ρ a w g o Q res.upd:=by
 obtain⟨info,u,f⟩:=bD (hti.ok _ _ hi);obtain⟨jw,u',f'⟩:=bD (hti.ok _ _ hfi);obtain⟨fs,fd,rfl,h1,rfl,rfl⟩:=Na2 f hf;simp only[aC,Qb5]at h;obtain⟨sv,h2,h3⟩:=h;split at h3
 ·rename_i ls
  simp only[aC,aO,Qb5]at h3;obtain⟨_,h4,h5⟩:=h3;split at h4
  ·rename_i hb
   simp only[Qb6,Sbr]at hb;split at h5
   ·rename_i sv' iq
    refine zF hR hd h5 hs fun hg=>?_
    obtain⟨vs,e,hl⟩:=gY hR hg h2;have fS:=(hl.drop fd.offset).take fi.size;have hlen:=hl.len
    have cP:∀ v,(if fi.agg=true then v=.agg ((vs.drop fd.offset).take fi.size).toArray else (vs.drop fd.offset).take fi.size=[v]) ->
      (execOp a.eval o).run P w=.ok (.value v) w:=by
     intro v hv;unfold execOp;simp only[ho];refine gT ?_;simp only[Instr.field,Sem.run_bind,run_underlying f.und,Result.andThen_ok,h1,e,asAgg,Sem.run_pure,part,f'.isAgg,f'.sizeOf]
     cases uw:fi.agg with
     | true =>
      rw[uw]at hv;simp only[if_true]at hv ⊢;rw[hv];simp only[Sem.run_bind,f'.sizeOf,Result.andThen_ok,Sem.run_pure];congr 2;apply Ub1;simp[List.extract_eq_take_drop]
     | false =>
      rw[uw]at hv;simp only[Rbk,if_false]at hv ⊢
      have:vs[fd.offset]?=some v:=by
       have h0:((vs.drop fd.offset).take fi.size)[0]?=some v:=by rw[hv];rfl
       rw[Sbe]at h0;split at h0
       ·rw[Sba]at h0;simpa using h0
       ·cases h0
      simp[this]
    cases uw:fi.agg with
    | true =>
     refine⟨.agg ((vs.drop fd.offset).take fi.size).toArray,uY iq fS (by rw[uw];rfl),cP _ (by rw[uw];rfl)⟩
    | false =>
     have iz:((ls.drop fd.offset).take fi.size).length=1:=by
      rw[uw]at iq;unfold Tat at iq;simp only[cond_false]at iq;split at iq
      ·rename_i l iz;rw[iz];rfl
      ·cases iq
     have uu:((vs.drop fd.offset).take fi.size).length=1:=by rw[fS.len,iz]
     obtain⟨v,hv⟩:=List.length_eq_one_iff.1 uu;exact⟨v,uY iq fS (by rw[uw];exact hv),cP _ (by rw[uw];exact hv)⟩
   ·cases h5
  ·cases h4
 ·cases h3
theorem jG.get:∀ {ts:List (Bool×List aT)} {us:List Value} {i:Nat} {ag:Bool} {ls:List aT},jG σ ρ G w ts us->ts[i]?=some (ag,ls) ->
  ∃ u vs,us[i]?=some u/\aH σ ρ G w ls vs/\(if ag=true then u=.agg vs.toArray else vs=[u])
 |[],_,_,_,_,_,h=>by simp at h
 | (a0, l0) :: r, us, i, ag, ls, ht, h => by
  obtain⟨u,eE,vs,rfl,h1,h2,h3⟩:=ht
  cases i with
  | zero =>
   simp only[Rbf,Qb7,Rbx]at h;obtain⟨rfl,rfl⟩:=h;exact⟨u,vs,rfl,h1,h2⟩
  | succ i =>
   simp only[Sbl]at h ⊢;exact jG.get h3 h
theorem Ma2 (hR:R E.ntmps F σ ρ a w G)(hd:gG E.ntmps o){nv:Nat}{x:Operand}{i:Nat}(ho:o.op=.extract x i){res:cK}
  (h:(do
   match <- Pas E g 0 x with
   | .tup vs => match vs[i]? with
    | some (a, ls) => match Tat a ls with
     |some v=>Zab o g nv v
     |none=>.no
    |none=>.no
   |_=>.no:RdM cK).eval σ=some res) (hs:aR cf ρ g nv res.lets):iL P E F σ ρ a w g o Q res.upd:=by
 simp only[aC,Qb5]at h;obtain⟨sv,h2,h3⟩:=h;split at h3
 ·rename_i ts
  split at h3
  ·rename_i ag ls hi
   split at h3
   ·rename_i v hv
    refine zF hR hd h3 hs fun hg=>?_
    obtain⟨us,e,ht⟩:=gY hR hg h2;obtain⟨u,vs,h4,h5,h6⟩:=ht.get hi;refine⟨u,uY hv h5 h6,?_⟩;unfold execOp;simp only[ho];refine gT ?_;simp[Instr.extract,e,h4]
   ·cases h3
  ·cases h3
 ·cases h3
theorem Ham (hR:R E.ntmps F σ ρ a w G)(hd:gG E.ntmps o)(hti:wU P E.ti){nv:Nat}{t:TypeId}{x:Operand}{k:Nat}(ho:o.op=.fieldAddr t x k){ti fi:TI}{off ft:Nat}
  (hi:E.ti t=some ti) (hf:ti.flds[k]?=some (off,ft)) (hfi:E.ti ft=some fi) (qb:0<fi.size) {res:cK}
  (h:(do Ray o g off (<- rdL E g 0 x):RdM cK).eval σ=some res) (hs:aR cf ρ g nv res.lets):iL P E F σ ρ a w g o Q res.upd:=by
 obtain⟨info,u,f⟩:=bD (hti.ok _ _ hi);obtain⟨jw,u',f'⟩:=bD (hti.ok _ _ hfi);obtain⟨fs,fd,rfl,h1,rfl,rfl⟩:=Na2 f hf;simp only[aC,Qb5]at h;obtain⟨l,h2,h3⟩:=h
 have cP:∀ b:Addr,a.eval x=.pointer (some b)->(execOp a.eval o).run P w=.ok (.value (.pointer (some (b.add fd.offset)))) w:=by
  intro b hb;unfold execOp;simp only[ho];refine gT ?_;have dz:¬ fi.size=0:=by omega
  simp only[Instr.fieldAt,Sem.run_bind,run_underlying f.und,Result.andThen_ok,h1,Instr.sureAddr,hb,Sem.run_pure,fieldPlace,f'.sizeOf,if_neg dz]
 unfold Ray at h3;split at h3
 ·rename_i b off
  refine dZ hR hd h3 hs fun hg _=>?_
  have hl:=gJ hR hg h2;simp only[aD]at hl;refine⟨_,?_,cP _ hl.1⟩;simp only[dI,aD];exact⟨by rw[add_add],hl.2⟩
 ·rename_i l' sz i off
  refine dZ hR hd h3 hs fun hg _=>?_
  have hl:=gJ hR hg h2;simp only[aD]at hl;obtain⟨b,n,c,k',iv,h4,h5,h6,h7,h8⟩:=hl;refine⟨_,?_,cP _ h8⟩;simp only[dI,aD];exact⟨b,n,c,k',iv,h4,h5,h6,h7,by rw[add_add,Rbp]⟩
 ·cases h3
end
section
variable {P:Program} {E:Env} {F:bQ} {σ:Nat->Option aU} {ρ:List D} {a:Act} {w w':World} {G:Gh} {g:Option (aP×Bool)} {o:Oper} {cf:Nat->List D->Option (List D)} {Q:Exit->Act->World->Prop} {next:Act->World->Prop}
theorem Hal (hR:R E.ntmps F σ ρ a w G)(hd:gG E.ntmps o)(hti:wU P E.ti){nv:Nat}{t:TypeId}{x i:Operand}(ho:o.op=.indexAddr t x i){ti ei:TI}{e:Nat}
  (hi:E.ti t=some ti) (he:ti.elem=some e) (si:E.ti e=some ei) {res:cK}
  (h:(do
   let l <- rdL E g t x
   let s <- zH l
   let a <- rdA E g 0 i
   bZ (Nat.blt 0 ei.size)
   vJ o g [.prim .inb [s.x,a] 0] (.one (.pe l ei.size a 0)) []:RdM cK).eval σ=some res) (hs:aR cf ρ g nv res.lets):iL P E F σ ρ a w g o Q res.upd:=by
 obtain⟨info,u,f⟩:=bD (hti.ok _ _ hi);obtain⟨jw,u',f'⟩:=bD (hti.ok _ _ si);obtain rfl:=sQ f he;simp only[aC,Qb5,aO]at h;obtain⟨l,h1,s,h2,y,h3,_,h4,h5⟩:=h;refine dZ hR hd h5 hs fun hg cT=>?_
 obtain⟨ds,hp,-,-⟩:=step1 cT hg;have hl:=gJ hR hg h1;have im:=(eT hR h2 hl).rd;have hy:=kL hR hg h3;simp only[Rby,Sbc]at hp;generalize hxv:s.x.val ρ=xv at hp im;generalize hyv:y.val ρ=yv at hp hy;cases xv<;>cases yv<;>simp only[aS.run]at hp<;>first|cases hp|skip
 rename_i sz rs k iv;split at hp
 ·rename_i hb
  obtain⟨A,b,n,c,vs,e1,e2,e3,e4,-⟩:=im.inv;have hn:n≠0:=by omega
  have hA:A=some b:=e4.resolve_left hn;subst hA;refine⟨.pointer (some (b.add (iv.toNat*ei.size+0))),?_,?_⟩
  ·simp only[dI,aD]
   exact⟨b,n,c,k,iv,e1▸hl,hyv,hb.1,by omega,rfl⟩
  ·unfold execOp
   simp only[ho];refine gT ?_;have bh:(0:Int)<=iv/\iv<(n:Int):=⟨hb.1,by rw[<- e2];exact hb.2⟩;simp only[Instr.indexAt,hy.int_inv,asIntOf,Sem.run_bind,Sem.run_pure,Result.andThen_ok,run_underlying f.und,e1,if_pos bh,f'.sizeOf,Nat.add_zero]
 ·cases hp
theorem Ra4 (hR:R E.ntmps F σ ρ a w G)(hd:gG E.ntmps o)(hti:wU P E.ti){nv:Nat}{t:TypeId}{x i:Operand}(ho:o.op=.index t x i){ti:TI}
  (hi:E.ti t=some ti) {res:cK}
  (h:(do
   bZ ti.isStr
   let s <- rdA E g t x
   let a <- rdA E g 0 i
   vI o g nv .sidx [s,a]:RdM cK).eval σ=some res) (hs:aR cf ρ g nv res.lets):iL P E F σ ρ a w g o Q res.upd:=by
 obtain⟨info,u,f⟩:=bD (hti.ok _ _ hi);simp only[aC,Qb5,aO]at h;obtain⟨_,h0,x',h1,y,h2,h3⟩:=h;split at h0
 ·rename_i cT
  obtain rfl:=Da9 f cT;refine dR hR hd h3 hs fun hg d hp=>?_
  have hx:=kL hR hg h1;have hy:=kL hR hg h2;simp only[Rby,Sbc]at hp;generalize x'.val ρ=xv at hp hx;generalize y.val ρ=yv at hp hy;cases xv<;>cases yv<;>simp only[aS.run]at hp<;>first|cases hp|skip
  rename_i s k iv;split at hp
  ·rename_i h0i
   split at hp
   ·rename_i b hb
    simp only[Qb7,Sbz,and_true]at hp;subst hp;refine⟨_,.int _ _,?_⟩;unfold execOp;simp only[ho];refine gT ?_
    have e:(⟨s.toArray⟩:ByteArray)[iv.toNat]?=some b:=by
     have:iv.toNat<s.length:=by
      rcases Rbu iv.toNat s.length with h|h
      ·exact h
      ·rw[Tbl h]at hb;cases hb
     rw[getElem?_pos (⟨s.toArray⟩:ByteArray) iv.toNat (by simpa[ByteArray.size] using this)];rw[Rba this]at hb;rw[<- hb];rfl
    simp only[Instr.index,hy.int_inv,hx.str_inv,asIntOf,Sem.run_bind,Sem.run_pure,Result.andThen_ok,run_underlying f.und,if_pos h0i,e]
   ·cases hp
  ·cases hp
 ·cases h0
theorem zI (hR:R E.ntmps F σ ρ a w G)(hg:gOn ρ g=true):∀ {xs:List Operand} {ts:List TypeId} {p7:List SV},(Aan E g xs ts).eval σ=some p7 ->
  p7.length=xs.length/\∀ (i:Nat) (sv:SV) (x:Operand),p7[i]?=some sv->xs[i]?=some x->dI σ ρ G w sv (a.eval x)
 | [], ts, p7, h => by
  simp only[Aan,aF,Qb7]at h;subst h;simp
 | x :: xs, ts, p7, h => by
  simp only[Aan,aC,Qb5,aF,Qb7]at h;obtain⟨sv,h1,l,h2,rfl⟩:=h;obtain⟨h3,h4⟩:=zI hR hg h2;refine⟨by simp[h3],fun i sv' x' hi hx=>?_⟩
  cases i with
  | zero =>
   simp only[Rbf,Qb7]at hi hx;subst hi hx;exact gY hR hg h1
  | succ i =>
   simp only[Sbl]at hi hx;exact h4 i sv' x' hi hx
theorem Eah:∀ {p7:List SV} {ls:List aT},wO p7=some ls->ls.length=p7.length/\∀ (i:Nat) (l:aT),ls[i]?=some l->p7[i]?=some (.one l)
 | [], ls, h => by
  simp only[wO,Qb7]at h;subst h;simp
 | .one l :: r, ls, h => by
  simp only[wO,Rbo]at h;obtain⟨m,h1,rfl⟩:=h;obtain⟨h2,h3⟩:=Eah h1;refine⟨by simp[h2],fun i l' hi=>?_⟩
  cases i with
  |zero=>simp only[Rbf,Qb7]at hi ⊢;rw[hi]
  |succ i=>simp only[Sbl]at hi ⊢;exact h3 i l' hi
 |.dead::_,_,h=>by simp[wO]at h
 |.agg _::_,_,h=>by simp[wO]at h
 |.tup _::_,_,h=>by simp[wO]at h
theorem Jak (hR:R E.ntmps F σ ρ a w G)(hd:gG E.ntmps o){nv:Nat}{fn:FuncId}{first gi:Array Operand}(ho:o.op=.makeFunc (.func fn) first gi){res:cK}
  (h:(do
   bZ first.isEmpty
   let vs <- Aan E g gi.toList []
   let ls <- pR (wO vs)
   vJ o g [] (.one (.clo fn ls)) []:RdM cK).eval σ=some res) (hs:aR cf ρ g nv res.lets):iL P E F σ ρ a w g o Q res.upd:=by
 simp only[aC,Qb5,aO,bA]at h;obtain⟨_,h0,p7,h1,ls,tw,h2⟩:=h;split at h0
 ·rename_i hf
  refine dZ hR hd h2 hs fun hg _=>⟨.func (.func fn) #[] (gi.map a.eval),?_,?_⟩
  ·obtain⟨h3,h4⟩:=zI hR hg h1
   simp only[dI,aD];obtain⟨h5,h6⟩:=Eah tw;refine⟨gi.toList.map a.eval,by rw[<- Array.toList_map,Array.toArray_toList],.of_get (by simp[h3,h5]) fun i l v hi hv=>?_⟩;simp only[Sbd,Rbo]at hv;obtain⟨x,hv,rfl⟩:=hv;exact h4 i _ x (h6 i l hi) hv
  ·unfold execOp
   simp only[ho];refine gT ?_;have:first=#[]:=by simpa using hf
   subst this;simp[Instr.makeFunc]
 ·cases h0
theorem Jaj (hR:R E.ntmps F σ ρ a w G)(hd:gG E.ntmps o){nv:Nat}{x:Operand}(ho:o.op=.nilCheck x){res:cK}
  (h:(do
   match <- rdL E g 0 x with
   | .rp deps sz y => do
    let ds <- xI deps
    vJ o g [.prim .ne [y] 0] (.one (.pe (.sn ds .no false y) sz (.c (.int .i64 0)) 0)) []
   |.px b off=>vJ o g [] (.one (.px b off)) []
   |.pe l sz i off=>vJ o g [] (.one (.pe l sz i off)) []
   |.clo f cs=>vJ o g [] (.one (.clo f cs)) []
   |.pn=>vJ o g [.prim .ne [.c (.rows 0 [])] 0] (.one (.pe (.sn [] .no false (.c (.rows 0 []))) 0 (.c (.int .i64 0)) 0)) []
   |_=>.no:RdM cK).eval σ=some res) (hs:aR cf ρ g nv res.lets):iL P E F σ ρ a w g o Q res.upd:=by
 simp only[aC,Qb5]at h;obtain⟨l,h1,h2⟩:=h
 have qd:∀ b,a.eval x=.pointer (some b)->(execOp a.eval o).run P w=.ok (.value (.pointer (some b))) w:=by
  intro b hb;unfold execOp;simp only[ho,hb];rfl
 split at h2
 ·rename_i deps sz y
  simp only[aC,Qb5]at h2;obtain⟨ds,h3,h4⟩:=h2;refine dZ hR hd h4 hs fun hg cT=>?_
  obtain⟨zs,hp,-,-⟩:=step1 cT hg;have hl:=gJ hR hg h1;simp only[aD]at hl;obtain⟨uu,hv2,hv3⟩:=jX h3
  rcases hl.2 uu with ⟨e1,z,e2⟩|⟨b,row,e1,e2,e3⟩
  ·simp only[Rby,Sbc,e2,aS.run]at hp
   simp at hp
  ·refine⟨.pointer (some b),?_,qd b e1⟩
   simp only[dI,aD];refine⟨b,1,1,.i64,0,⟨⟨rfl,fun z hz=>hl.1.2 z (hv2 z hz).1⟩,fun _=>⟨?_,by simp,trivial⟩⟩,rfl,by omega,by simp,by simp[Addr.add]⟩;rw[e2];exact e3.drop hR hv3
 ·rename_i b off
  refine dZ hR hd h2 hs fun hg _=>?_
  have hl:=gJ hR hg h1;have fS:=hl;simp only[aD]at fS;exact⟨_,hl,by rw[fS.1];exact qd _ fS.1⟩
 ·rename_i l' sz i off
  refine dZ hR hd h2 hs fun hg _=>?_
  have hl:=gJ hR hg h1;have fS:=hl;simp only[aD]at fS;obtain⟨b,n,c,k,iv,-,-,-,-,e⟩:=fS;exact⟨_,hl,by rw[e];exact qd _ e⟩
 ·rename_i f cs
  refine dZ hR hd h2 hs fun hg _=>?_
  have hl:=gJ hR hg h1;have fS:=hl;simp only[aD]at fS;obtain⟨vs,e,-⟩:=fS;refine⟨_,hl,?_⟩;unfold execOp;simp only[ho,e];rfl
 ·refine dZ hR hd h2 hs fun hg cT=>?_
  obtain⟨zs,hp,-,-⟩:=step1 cT hg;simp[aP.val,aS.run]at hp
 ·cases h2
theorem Ebg {op:BinOp}{x y:Value}{dx dy d:D}(hx:Sc x dx)(hy:Sc y dy)(h:Mbl op dx dy=some d)(kO:op=.lss\/op=.gtr) :
  ∃ v,Sc v d/\(if op=.lss then Builtin.min2 x y else Builtin.max2 x y).run P w=.ok v w:=by
 unfold Mbl at h;split at h
 ·rename_i k x' k' y'
  rw[hx.int_inv,hy.int_inv];split at h
  ·rename_i hk
   subst hk;obtain rfl:=Rb5 h;refine⟨_,.int _ _,?_⟩
   rcases kO with rfl|rfl
   ·simp[Builtin.min2]
   ·simp[Builtin.max2]
  ·cases h
 ·cases h
theorem Ta2 {op:BinOp}(kO:op=.lss\/op=.gtr):∀ {vs:List Value} {ds:List D} {x:Value} {dx d:D},Sc x dx->vs.length=ds.length->(∀ (i:Nat) (v:Value) (e:D),vs[i]?=some v->ds[i]?=some e->Sc v e) ->
  Na1 op dx ds=some d->∃ v,Sc v d/\(vs.foldlM (fun a b=>if op=.lss then Builtin.min2 a b else Builtin.max2 a b) x).run P w=.ok v w
 | [], ds, x, dx, d, hx, hl, _, h => by
  obtain rfl:ds=[]:=Sb5 (by simpa using hl.symm);simp only[Na1,Qb7]at h;subst h;exact⟨x,hx,rfl⟩
 | v :: vs, ds, x, dx, d, hx, hl, hg, h => by
  cases ds with
  |nil=>simp at hl
  | cons e es =>
   simp only[Na1,Qb5]at h;obtain⟨z,h1,h2⟩:=h;obtain⟨u,h3,h4⟩:=Ebg (P:=P) (w:=w) hx (hg 0 v e rfl rfl) h1 kO;obtain⟨r,h5,h6⟩:=Ta2 kO (vs:=vs) (ds:=es) h3 (by simpa using hl) (fun i v' e' hi he=>hg (i+1) v' e' hi he) h2;refine⟨r,h5,?_⟩;rw[List.foldlM_cons,Sem.run_bind,h4];exact h6
theorem Ka4 (hg:gOn ρ g=true):∀ {ls:List aT} {xs:List aP},Jaa g ls=some xs->xs.length=ls.length /\
  ∀ (i:Nat) (l:aT) (x:aP) (v:Value),ls[i]?=some l->xs[i]?=some x->aD σ ρ G w l v->Sc v (x.val ρ)
 | [], xs, h => by
  simp only[Jaa,Qb7]at h;subst h;simp
 | l :: ls, xs, h => by
  simp only[Jaa,Qb5,Rbo]at h;obtain⟨x,h1,ys,h2,rfl⟩:=h;obtain⟨h3,h4⟩:=Ka4 hg h2;refine⟨by simp[h3],fun i l' x' v hi hx hl=>?_⟩
  cases i with
  | zero =>
   simp only[Rbf,Qb7]at hi hx;subst hi hx;exact lG hg h1 hl
  | succ i =>
   simp only[Sbl]at hi hx;exact h4 i l' x' v hi hx hl
theorem jD (hR:R E.ntmps F σ ρ a w G)(hd:gG E.ntmps o){nv:Nat}{args:Array Operand}{argTypes:Array TypeId}{b:Builtin}{p:aS}{op:BinOp}
  (hb:(b=.min/\p=.min/\op=.lss)\/(b=.max/\p=.max/\op=.gtr))
  (ho:o.op=.call { callee:=.builtin b,args,argTypes }) {p7:List SV} {ts:List TypeId} {ls:List aT} {xs:List aP} {res:cK}
  (h1:(Aan E g args.toList ts).eval σ=some p7) (h2:wO p7=some ls) (h3:Jaa g ls=some xs)
  (h:(vI o g nv p xs).eval σ=some res) (hs:aR cf ρ g nv res.lets):iL P E F σ ρ a w g o Q res.upd:=by
 refine dR hR hd h hs fun hg d hp=>?_
 obtain⟨h4,h5⟩:=zI hR hg h1;obtain⟨h6,h7⟩:=Eah h2;obtain⟨h8,h9⟩:=Ka4 (σ:=σ) (ρ:=ρ) (G:=G) (w:=w) hg h3
 have df:∀ (i:Nat) (v:Value) (e:D),(args.toList.map a.eval)[i]?=some v->(xs.map (·.val ρ))[i]?=some e->Sc v e:=by
  intro i v e hv he;simp only[Sbd,Rbo]at hv he;obtain⟨x,hx,rfl⟩:=hv;obtain⟨y,hy,rfl⟩:=he
  have bh:i<ls.length:=by
   rw[<- h8];exact (Qb8.1 hy).1
  have hl:ls[i]?=some ls[i]:=Rba bh;exact h9 i _ y _ hl hy (h5 i _ x (h7 i _ hl) hx)
 have hlen:(args.toList.map a.eval).length=(xs.map (·.val ρ)).length:=by
  simp only[Rb4];omega
 generalize fX:args.toList.map a.eval=vs at df hlen;generalize hes:xs.map (·.val ρ)=es at df hlen hp
 have fp:args.map a.eval=vs.toArray:=by
  apply Ub1;simpa using fX
 cases es with
 |nil=>rcases hb with ⟨-,rfl,-⟩ | ⟨-,rfl,-⟩<;>simp[aS.run]at hp
 | cons e es =>
  cases vs with
  |nil=>simp at hlen
  | cons v vs =>
   have hf:Na1 op e es=some d:=by
    rcases hb with ⟨-,rfl,rfl⟩|⟨-,rfl,rfl⟩<;>simpa[aS.run] using hp
   obtain⟨r,eo,fb⟩:=Ta2 (P:=P) (w:=w) (op:=op) (by rcases hb with ⟨-,-,rfl⟩|⟨-,-,rfl⟩<;>simp) (df 0 v e rfl rfl) (by simpa using hlen)
    (fun i v' e' hi he=>df (i+1) v' e' hi he) hf
   refine⟨r,eo,?_⟩
   rcases hb with ⟨rfl,rfl,rfl⟩|⟨rfl,rfl,rfl⟩
   ·refine nO ho (s:=Builtin.min_ argTypes o.type (args.map a.eval)) (fun _=>rfl) ?_
    rw[fp];simpa[Builtin.min_] using fb
   ·refine nO ho (s:=Builtin.max_ argTypes o.type (args.map a.eval)) (fun _=>rfl) ?_
    rw[fp];simpa[Builtin.max_] using fb
end
section
variable {P:Program} {E:Env} {F:bQ} {σ:Nat->Option aU} {ρ:List D} {a:Act} {w w':World} {G:Gh} {g:Option (aP×Bool)} {o:Oper} {cf:Nat->List D->Option (List D)} {Q:Exit->Act->World->Prop} {next:Act->World->Prop}
def Scs (vs:List Value)(ds:List D):Prop:=vs.length=ds.length/\∀ (i:Nat) (v:Value) (d:D),vs[i]?=some v->ds[i]?=some d->Sc v d
theorem Scs.drop {vs:List Value}{ds:List D}(h:Scs vs ds)(k:Nat):Scs (vs.drop k) (ds.drop k) :=
 ⟨by simp[h.1],fun i v d hv hd=>by rw[Sba]at hv hd;exact h.2 _ v d hv hd⟩
theorem Scs.take {vs:List Value}{ds:List D}(h:Scs vs ds)(k:Nat):Scs (vs.take k) (ds.take k) :=
 ⟨by simp[h.1],fun i v d hv hd=>by
  rw[Sbe]at hv hd;split at hv
  ·rename_i hk
   rw[if_pos hk]at hd;exact h.2 _ v d hv hd
  ·cases hv⟩
theorem Iat:∀ {ks ls:List Nat} {a b c d:List D},a.length=ks.length->b.length=ks.length->∀ {r:Bool},Ral (ks++ls) (a++c) (b++d)=some r ->
  ∃ r1,Ral ks a b=some r1/\(r1=true->Ral ls c d=some r)/\(r1=false->r=false)
 |[],ls,[],[],c,d,_,_,r,h=>⟨true,rfl,fun _=>h,fun h=>by cases h⟩
 | k :: ks, ls, x :: a, y :: b, c, d, h1, h2, r, h => by
  simp only[Tbq,Ral,Qb5]at h;obtain⟨e,h3,h4⟩:=h
  cases e with
  | true =>
   simp only[if_true]at h4;obtain⟨r1,h5,h6,h7⟩:=Iat (by simpa using h1) (by simpa using h2) h4;exact⟨r1,by simp[Ral,h3,h5],h6,h7⟩
  | false =>
   simp only[Rbk,if_false,Qb7]at h4;exact⟨false,by simp[Ral,h3],(fun h=>by cases h),fun _=>h4.symm⟩
 |[],_,_::_,_,_,_,h,_,_,_=>by simp at h
 |[],_,[],_::_,_,_,_,h,_,_=>by simp at h
 |_::_,_,[],_,_,_,h,_,_,_=>by simp at h
 |_::_,_,_::_,[],_,_,_,h,_,_=>by simp at h
theorem Mb1 (l m:List UInt8):((⟨l.toArray⟩:ByteArray)==⟨m.toArray⟩)=(l==m):=by
 have:((⟨l.toArray⟩:ByteArray)==⟨m.toArray⟩)=(l.toArray==m.toArray):=rfl;rw[this];simp
theorem Qb0 {x y:D}{r:Bool}(h:eqD 0 x y=some r):∃ k i j,x=.int k i/\y=.int k j/\r=(i==j):=by
 cases x<;>cases y<;>simp only[eqD]at h<;>first|cases h|skip
 split at h
 ·rename_i e
  subst e;exact⟨_,_,_,rfl,rfl,(Rb5 h).symm⟩
 ·cases h
theorem Qbz {x y:D}{r:Bool}(h:eqD 1 x y=some r):∃ i j,x=.bool i/\y=.bool j/\r=(i==j):=by
 cases x<;>cases y<;>simp only[eqD]at h<;>first|(cases h;done)|skip
 exact⟨_,_,rfl,rfl,(Rb5 h).symm⟩
theorem Qby {x y:D}{r:Bool}(h:eqD 2 x y=some r):∃ i j,x=.str i/\y=.str j/\r=(i==j):=by
 cases x<;>cases y<;>simp only[eqD]at h<;>first|(cases h;done)|skip
 exact⟨_,_,rfl,rfl,(Rb5 h).symm⟩
theorem Pb1 {x y:D}{r:Bool}(h:eqD 3 x y=some r):False:=by
 cases x<;>cases y<;>simp[eqD]at h
theorem Pb0 {t:TypeId}{x y:Value}{dx dy:D}{b:Bool}(hx:Sc x dx)(hy:Sc y dy)(h:eqD (Fa6 (qD P t)) dx dy=some b)(n:Nat):(Op.equalIn (n+1) t x y).run P w=.ok b w:=by
 unfold qD at h;split at h
 ·rename_i k hu
  obtain⟨k1,i,j,rfl,rfl,rfl⟩:=Qb0 h;simp[Op.equalIn,run_underlying hu,hx.int_inv,hy.int_inv]
 ·rename_i hu
  obtain⟨i,j,rfl,rfl,rfl⟩:=Qbz h;simp[Op.equalIn,run_underlying hu,hx.bool_inv,hy.bool_inv]
 ·rename_i hu
  obtain⟨l,m,rfl,rfl,rfl⟩:=Qby h;simp only[Op.equalIn,run_underlying hu,hx.str_inv,hy.str_inv,Sem.run_bind,Result.andThen_ok,Sem.run_pure];rw[Mb1]
 ·exact (Pb1 h).elim
 ·exact (Pb1 h).elim
 ·exact (Pb1 h).elim
def sZ (P:Program)(t:TypeId)(vs:List Value)(v:Value):Prop:=match P.underlying t with
 |some (.struct _)=>v=.agg vs.toArray
 |_=>vs=[v]
theorem Qam (P:Program)(d:Nat):∀ (fs:List Field) (acc l:List TypeId),fs.foldl (fun acc f=>acc.bind fun l=>(flat P d f.type).bind fun m=>bif Nat.beq f.offset l.length then some (l++m) else none) (some acc)=some l ->
  ∃ ls,l=acc++ls/\(∀ f r,fs=f::r->∃ m,flat P d f.type=some m/\f.offset=acc.length/\∃ lh,ls=m++lh/\r.foldl (fun acc f=>acc.bind fun l=>(flat P d f.type).bind fun m=>bif Nat.beq f.offset l.length then some (l++m) else none) (some (acc++m))=some l)/\(fs=[]->ls=[])
 | [], acc, l, h => by
  simp only[List.foldl_nil,Qb7]at h;exact⟨[],by simp[h],by simp,fun _=>rfl⟩
 | f :: r, acc, l, h => by
  simp only[List.foldl_cons,Rbe]at h
  cases hm:flat P d f.type with
  | none =>
   rw[hm]at h;simp only[Option.bind_none]at h
   have:∀ (r:List Field),r.foldl (fun acc f=>acc.bind fun l=>(flat P d f.type).bind fun m=>bif Nat.beq f.offset l.length then some (l++m) else none) (none:Option (List TypeId))=none:=by
    intro r
    induction r with
    |nil=>rfl
    |cons _ _ ih=>simpa using ih
   rw[this]at h;cases h
  | some m =>
   rw[hm]at h;simp only[Rbe]at h
   cases ho:Nat.beq f.offset acc.length with
   | false =>
    rw[ho]at h;simp only[cond_false]at h
    have:∀ (r:List Field),r.foldl (fun acc f=>acc.bind fun l=>(flat P d f.type).bind fun m=>bif Nat.beq f.offset l.length then some (l++m) else none) (none:Option (List TypeId))=none:=by
     intro r
     induction r with
     |nil=>rfl
     |cons _ _ ih=>simpa using ih
    rw[this]at h;cases h
   | true =>
    rw[ho]at h;simp only[cond_true]at h;obtain⟨ls,h1,-,-⟩:=Qam P d r (acc++m) l h;refine⟨m++ls,by rw[h1,List.append_assoc],fun f' r' e=>?_,by simp⟩;obtain⟨rfl,rfl⟩:=Ub2 e;exact⟨m,hm,by simpa using ho,ls,rfl,h⟩
theorem wK {α:Type}(l:List α)(k m:Nat):(l.drop k).take m++l.drop (k+m)=l.drop k:=by
 rw[<- List.drop_drop,List.take_append_drop]
theorem Das {t:TypeId}{d:Nat}{m:List TypeId}(hm:flat P d t=some m)(hs:Nbl P d t=true)(hc:Oaa P d t=true){vs:List Value}{off:Nat}(hl:off+m.length<=vs.length) :
  ∃ v,sZ P t ((vs.drop off).take m.length) v/\(part t vs.toArray off).run P w=.ok v w:=by
 unfold Nbl at hs;rw[hm]at hs
 cases hi:P.info? t with
 |none=>rw[hi]at hs;cases hs
 | some i =>
  rw[hi]at hs;simp only[Rb3]at hs
  cases d with
  |zero=>cases hc
  | succ d =>
   simp only[Oaa]at hc;simp only[flat]at hm
   cases hu:P.underlying t with
   |none=>rw[hu]at hm;cases hm
   | some u =>
    unfold sZ;rw[hu]at hc hm ⊢;simp only[part,Sem.run_bind,Pah hu,Result.andThen_ok,run_sizeOf hi,Sem.run_ite];cases u<;>first|(cases hc;done)|skip
    case struct fs =>
     refine⟨_,rfl,?_⟩;simp only[Jap,if_true,Sem.run_bind,run_sizeOf hi,Result.andThen_ok,Sem.run_pure,<- hs];congr 2;apply Ub1;simp[List.extract_eq_take_drop]
    all_goals
     simp only[Qb7]at hm;subst hm;have bh:off<vs.length:=by simp only[Sb3]at hl;omega
     refine⟨vs[off],?_,?_⟩
     ·simp only[Sb3]
      rw[List.drop_eq_getElem_cons bh];rfl
     ·simp[Jap,Rba bh]
theorem Ias (P:Program)(w:World):∀ (d:Nat) (t:TypeId) (l:List TypeId),Oaa P d t=true->flat P d t=some l->∀ (xs ys:List Value) (dx dy:List D) (b:Bool) (x y:Value),
  Scs xs dx->Scs ys dy->xs.length=l.length->ys.length=l.length->sZ P t xs x->sZ P t ys y->Ral (l.map fun t=>Fa6 (qD P t)) dx dy=some b ->
  ∀ n,d<=n->(Op.equalIn n t x y).run P w=.ok b w
 |0,t,l,hc,_=>by cases hc
 | d + 1, t, l, hc, hf => by
  intro xs ys dx dy b x y hx hy xm hly hox hoy he n hn;obtain⟨n,rfl⟩:∃ m,n=m+1:=⟨n-1,by omega⟩
  have wu:(∀ fs,P.underlying t≠some (.struct fs))->flat P (d+1) t=some [t]->(Op.equalIn (n+1) t x y).run P w=.ok b w:=by
   intro xx hft;rw[hf]at hft;obtain rfl:=Rb5 hft
   have h1:xs=[x]:=by
    unfold sZ at hox;split at hox
    ·rename_i fs hu;exact absurd hu (xx fs)
    ·exact hox
   have h2:ys=[y]:=by
    unfold sZ at hoy;split at hoy
    ·rename_i fs hu;exact absurd hu (xx fs)
    ·exact hoy
   subst h1 h2
   match dx,dy,hx.1,hy.1 with
   | [dx], [dy], _, _ =>
    simp only[Rby,Sbc,Ral,Qb5]at he;obtain⟨e,h3,h4⟩:=he;have:e=b:=by cases e<;>simpa using h4
    subst this;exact Pb0 (hx.2 0 x dx rfl rfl) (hy.2 0 y dy rfl rfl) h3 n
  simp only[Oaa]at hc;simp only[flat]at hf
  cases hu:P.underlying t with
  |none=>rw[hu]at hc;cases hc
  | some u =>
   rw[hu]at hc hf;cases u<;>first|(cases hc;done)|skip
   case struct fs =>
    simp only[Qb6,Rb0,Rb6]at hc;obtain⟨zn,df⟩:=hc;have rl:x=.agg xs.toArray:=by unfold sZ at hox;rw[hu]at hox;exact hox
    have vq:y=.agg ys.toArray:=by unfold sZ at hoy;rw[hu]at hoy;exact hoy
    subst rl vq;have hfs:P.fieldsOf t=fs:=by simp[Program.fieldsOf,hu]
    rw[run_equalIn_struct (P:=P) w n t _ _ (by rw[hfs];exact hu) zn,hfs];dsimp only at hf;generalize hgl:fs.toList=gs at hf df
    have key : ∀ (gs : List Field) (acc : List TypeId) (b : Bool), (∀ f ∈ gs, (f.name != "_") = true /\ Oaa P d f.type = true /\ Nbl P d f.type = true) ->
      gs.foldl (fun acc f=>acc.bind fun l=>(flat P d f.type).bind fun m=>bif Nat.beq f.offset l.length then some (l++m) else none) (some acc)=some l ->
      Ral ((l.drop acc.length).map fun t=>Fa6 (qD P t)) (dx.drop acc.length) (dy.drop acc.length)=some b ->
      (Op.eqFields n xs.toArray ys.toArray gs).run P w=.ok b w:=by
     intro gs
     induction gs with
     | nil =>
      intro acc b _ qw hq;simp only[List.foldl_nil,Qb7]at qw;subst qw;have e1:dx.drop acc.length=[]:=List.drop_of_length_le (by rw[<- hx.1];omega);have e2:dy.drop acc.length=[]:=List.drop_of_length_le (by rw[<- hy.1];omega);simp only[List.drop_length,Sbc,e1,e2,Ral,Qb7]at hq;subst hq;simp[Op.eqFields]
     | cons f r ih =>
      intro acc b sa qw hq;obtain⟨ls,e1,h1,-⟩:=Qam P d (f::r) acc l qw;obtain⟨m,hm,pZ,lh,e2,zw⟩:=h1 f r rfl;obtain⟨hname,xa,ej⟩:=sa f Rbr;have hlen:acc.length+m.length<=l.length:=by rw[e1,e2];simp
      have lE:l.drop acc.length=m++lh:=by rw[e1,e2];simp
      rw[lE,Tb3]at hq;rw[<- wK dx acc.length m.length,<- wK dy acc.length m.length]at hq
      have iz:((dx.drop acc.length).take m.length).length=(m.map fun t=>Fa6 (qD P t)).length:=by
       simp only[Rbv,Sbj,Rb4,<- hx.1];omega
      have ka:((dy.drop acc.length).take m.length).length=(m.map fun t=>Fa6 (qD P t)).length:=by
       simp only[Rbv,Sbj,Rb4,<- hy.1];omega
      obtain⟨r1,h2,h3,h4⟩:=Iat iz ka hq;obtain⟨vx,hvx,hpx⟩:=Das (w:=w) hm ej xa (vs:=xs) (off:=acc.length) (by omega);obtain⟨vy,hvy,hpy⟩:=Das (w:=w) hm ej xa (vs:=ys) (off:=acc.length) (by omega)
      have heq:=Ias P w d f.type m xa hm _ _ _ _ r1 vx vy ((hx.drop _).take _) ((hy.drop _).take _) (by simp only[Rbv,Sbj];omega)
       (by simp only[Rbv,Sbj];omega) hvx hvy h2 n (by omega)
      have hname' : f.name ≠ "_" := by simpa using hname
      rw[Op.eqFields];simp only[if_pos hname',Sem.run_bind,pZ,hpx,hpy,heq,Result.andThen_ok]
      cases r1 with
      | false =>
       obtain rfl:=h4 rfl;simp
      | true =>
       have:=ih (acc++m) b (fun f' hf'=>sa f' (Rbl _ hf')) zw (by
        rw[List.length_append,<- List.drop_drop,lE];simpa using h3 rfl)
       simpa using this
    exact key gs [] b (fun f hf'=>by
     have:=df f hf';exact⟨this.1.1,this.1.2,this.2⟩) hf (by simpa using he)
   all_goals exact wu (by intro fs e;rw[hu]at e;cases e) (by simp[flat,hu])
theorem Ia9:∀ {ls:List aT} {xs:List aP} {vs:List Value},atoms ls=some xs->aH σ ρ G w ls vs->Scs vs (xs.map (·.val ρ))/\xs.length=ls.length
 | [], xs, vs, h, hl => by
  simp only[atoms,Qb7]at h;simp only[aH]at hl;subst h hl;exact⟨⟨rfl,by simp⟩,rfl⟩
 | l :: ls, xs, vs, h, hl => by
  cases l<;>simp only[atoms]at h<;>first|(cases h;done)|skip
  simp only[Rbo]at h;obtain⟨ys,h1,rfl⟩:=h;simp only[aH]at hl;obtain⟨u,us,rfl,h2,h3⟩:=hl;obtain⟨⟨h4,h5⟩,h6⟩:=Ia9 h1 h3;refine⟨⟨by simpa using h4,fun i v d hv hd=>?_⟩,by simp[h6]⟩
  cases i with
  | zero =>
   simp only[Rbf,Rby,Qb7]at hv hd;subst hv hd;simpa[aD] using h2
  | succ i =>
   simp only[Rby,Sbl]at hv hd;exact h5 i v d hv hd
theorem Han (hR:R E.ntmps F σ ρ a w G)(hd:gG E.ntmps o){nv:Nat}{p:aS}{xs:List aP}{neg:Bool}{op:BinOp}{t ty:TypeId}{x y:Operand}
  (ho:o.op=.binOp op t x y ty) (kO:op=if neg then .neq else .eql) {res:cK}
  (h:(RdM.ret ⟨[.prim p xs 1]++(bif neg then [.prim .not [.v nv] 1] else []),match o.dst with|some d=>[(kT d,aU.slot none (mkS g (.v (bif neg then nv+1 else nv))))]|none=>[]⟩:RdM cK).eval σ=some res)
  (hs:aR cf ρ g nv res.lets)
  (hv:gOn ρ g=true->∀ d,p.run (xs.map (·.val ρ))=some [d]->∃ b,d=.bool b/\(eqGuard op t x y (a.eval x) (a.eval y)).run P w=.ok () w /\
   (binOp op t (a.eval x) (a.eval y)).run P w=.ok (.bool (if neg then !b else b)) w):iL P E F σ ρ a w g o Q res.upd:=by
 simp only[aF,Qb7]at h;subst h;simp only[Gab]
 cases neg with
 | false =>
  simp only[cond_false,Rb1]at hs ⊢;refine⟨fun hg=>?_,fun hg=>Hbz hR hd hg (Hah hs hg)⟩;obtain⟨d,h1,h2⟩:=gW hs hg;obtain⟨b,rfl,h3,h4⟩:=hv hg d h1;refine Ma3 hR hd hg (v:=.bool b) ?_ (by rw[h2];exact .bool _);unfold execOp;simp only[ho];refine gT ?_;rw[Sem.run_bind,h3];exact h4
 | true =>
  simp only[cond_true]at hs ⊢;have ky:aR cf ρ g nv [.prim p xs 1]:=⟨hs.1,trivial⟩;have gk:aR cf ρ g (nv+1) [.prim .not [.v nv] 1]:=⟨hs.2.1,trivial⟩;refine⟨fun hg=>?_,fun hg=>Hbz hR hd hg (Hah gk hg)⟩;obtain⟨d,h1,h2⟩:=gW ky hg;obtain⟨e,h5,h6⟩:=gW gk hg;obtain⟨b,rfl,h3,h4⟩:=hv hg d h1;simp only[Rby,Sbc,h2,aS.run,Qb7,Sbz,and_true]at h5;subst h5;refine Ma3 hR hd hg (v:=.bool (!b)) ?_ (by rw[h6];exact .bool _);unfold execOp;simp only[ho];refine gT ?_;rw[Sem.run_bind,h3];exact h4
theorem Cab {neg:Bool}{op:BinOp}(kO:op=if neg then .neq else .eql){t:TypeId}{x y:Value}{b:Bool}(h:(Op.equal t x y).run P w=.ok b w)
  (hx:∀ k n,x≠.int k n) (hs:∀ s,x≠.string s) (hf:∀ k b,x≠.float k b) (hc:∀ k r i,x≠.complex k r i):(binOp op t x y).run P w=.ok (.bool (if neg then !b else b)) w:=by
 cases neg with
 | false =>
  simp only[Rbk,if_false]at kO;subst kO;unfold binOp
  cases x<;>first
   |exact absurd rfl (hx _ _)
   |exact absurd rfl (hs _)
   |exact absurd rfl (hf _ _)
   |exact absurd rfl (hc _ _ _)
   |(cases y<;>simp[h])
 | true =>
  simp only[if_true]at kO;subst kO;unfold binOp
  cases x<;>first
   |exact absurd rfl (hx _ _)
   |exact absurd rfl (hs _)
   |exact absurd rfl (hf _ _)
   |exact absurd rfl (hc _ _ _)
   |(cases y<;>simp[h])
theorem pW {op:BinOp}{t:TypeId}{x y:Operand}{u v:Value}(h1:u≠.nilIface)(h2:(∀ c,u≠.agg c)\/P.eqGuardType P.depth t=false):(eqGuard op t x y u v).run P w=.ok () w:=by
 unfold eqGuard
 rcases h2 with h2|h2
 ·cases op<;>cases u<;>cases v<;>first|rfl|exact absurd rfl h1|exact absurd rfl (h2 _)
 ·cases op<;>cases u<;>cases v<;>first|rfl|exact absurd rfl h1|simp[h2]
theorem Fbt {t:TypeId}{i:TI}{info:TypeInfo}{u:TypeDesc}(f:dN P t i info u)(h:i.isBool=true):u=.bool:=by
 have:Sap u=true:=by rw[<- h,f.eq];rfl
 unfold Sap at this;split at this
 ·rfl
 ·cases this
theorem Hbx {t:TypeId}{i:TI}{info:TypeInfo}{u:TypeDesc}(f:dN P t i info u)(h:i.isPtr=true):∃ e,u=.pointer e:=by
 have:Zav u=true:=by rw[<- h,f.eq];rfl
 unfold Zav at this;split at this
 ·exact⟨_,rfl⟩
 ·cases this
theorem Zaf {neg:Bool}{op:BinOp}(h:op=if neg then .neq else .eql):(bif neg then BinOp.neq else .eql)=op:=by cases neg<;>simp[h]
theorem Ma4 {t:TypeId}{ti:TI}{info:TypeInfo}{u:TypeDesc}(f:dN P t ti info u)(tk:ti.cmp=true){xs ys:List Value}{dx dy:List D}{b:Bool}(hx:Scs xs dx)(hy:Scs ys dy)
  (xm:xs.length=ti.size) (hly:ys.length=ti.size) (h:Ral (ti.cells.map Fa6) dx dy=some b) :
  (Op.equal t (.agg xs.toArray) (.agg ys.toArray)).run P w=.ok b w/\P.eqGuardType P.depth t=false:=by
 have hc:ti.cmp=(Jap u&&Oaa P 12 t&&!(P.eqGuardType P.depth t)):=by rw[f.eq];rfl
 rw[hc]at tk;simp only[Qb6,Rb0]at tk;obtain⟨⟨ni,sa⟩,zc⟩:=tk;have ic:=f.cells;simp only[Rbo]at ic;obtain⟨l,iz,ka⟩:=ic;have hlen:=f.len;rw[<- ka]at hlen h;simp only[Rb4]at hlen;rw[List.map_map]at h
 have cT:∃ fs,u=.struct fs:=by
  have hu:=f.und;simp only[Oaa,hu]at sa;cases u<;>first|(cases ni;done)|(cases sa;done)|exact⟨_,rfl⟩
 obtain⟨fs,rfl⟩:=cT;refine⟨?_,zc⟩;exact Ias P w 12 t l sa iz xs ys dx dy b _ _ hx hy (by omega) (by omega) (by unfold sZ;rw[f.und]) (by unfold sZ;rw[f.und]) h 10000 (by omega)
theorem Abj {t:TypeId}(hu:P.underlying t=some .bool)(b c:Bool)(n:Nat):(Op.equalIn (n+1) t (.bool b) (.bool c)).run P w=.ok (b==c) w:=by
 simp[Op.equalIn,run_underlying hu]
theorem Fbc {t e:TypeId}(hu:P.underlying t=some (.slice e))(x y p q:Nat)(n:Nat):(Op.equalIn (n+1) t (.slice none x y) (.slice none p q)).run P w=.ok true w:=by
 simp[Op.equalIn,run_underlying hu]
theorem Abi {t e:TypeId}(hu:P.underlying t=some (.slice e))(a:Addr)(x y p q:Nat)(n:Nat):(Op.equalIn (n+1) t (.slice (some a) x y) (.slice none p q)).run P w=.ok false w:=by
 simp[Op.equalIn,run_underlying hu]
theorem Fbb {t e:TypeId}(hu:P.underlying t=some (.pointer e))(A:Option Addr)(n:Nat):(Op.equalIn (n+1) t (.pointer A) (.pointer none)).run P w=.ok A.isNone w:=by
 cases A<;>simp[Op.equalIn,run_underlying hu]
theorem Taw (hR:R E.ntmps F σ ρ a w G)(hd:gG E.ntmps o)(hti:wU P E.ti){nv:Nat}{neg:Bool}{op:BinOp}{t ty:TypeId}{x y:Operand}
  (ho:o.op=.binOp op t x y ty) (kO:op=if neg then .neq else .eql) {res:cK}
  (h:(Nbm E nv o g neg t x y).eval σ=some res) (hs:aR cf ρ g nv res.lets):iL P E F σ ρ a w g o Q res.upd:=by
 unfold Nbm at h;simp only[aC,Qb5]at h;obtain⟨va,h1,vb,h2,h3⟩:=h;split at h3
 ·
  rename_i ls ms;simp only[aC,Qb5,tiR,bA]at h3;obtain⟨ti,hi,h4⟩:=h3;obtain⟨info,u,f⟩:=bD (hti.ok _ _ hi);split at h4
  ·rename_i xs ys uv zf
   simp only[aC,Qb5,aO]at h4;obtain⟨_,h5,h6⟩:=h4;split at h5
   ·rename_i hb
    simp only[Qb6,Rb3]at hb;obtain⟨⟨tk,xm⟩,hly⟩:=hb;refine Han hR hd ho kO h6 hs fun hg d hp=>?_
    obtain⟨vx,ex,a7e⟩:=gY hR hg h1;obtain⟨vy,ey,a7u⟩:=gY hR hg h2;obtain⟨qm,qp⟩:=Ia9 uv a7e;obtain⟨hy1,hy2⟩:=Ia9 zf a7u;have fw:(ti.cells.map Fa6).length=xs.length:=by rw[Rb4,f.len];omega
    simp only[aS.run,fw,Tb3,Rb4,Rbo,Sbz,and_true]at hp;obtain⟨b,hp,rfl⟩:=hp;rw[List.take_left' (by simp),List.drop_left' (by simp)]at hp;have a6y:=qm.1;have a5f:=hy1.1;simp only[Rb4]at a6y a5f;obtain⟨h7,h8⟩:=Ma4 (w:=w) f tk qm hy1 (by omega) (by omega) hp;refine⟨b,rfl,?_,?_⟩
    ·rw[ex];exact pW (by simp) (.inr h8)
    ·rw[ex,ey];exact Cab kO h7 (by simp) (by simp) (by simp) (by simp)
   ·cases h5
  ·cases h4
 ·rename_i l m
  simp only[aC,Qb5,tiR,bA]at h3;obtain⟨ti,hi,h4⟩:=h3;obtain⟨info,u,f⟩:=bD (hti.ok _ _ hi);split at h4
  ·
   rename_i p q hp hq;rw[iR]at h4;have hx:gOn ρ g=true->Sc (a.eval x) (p.val ρ):=fun hg=>lG hg hp (gY hR hg h1)
   have hy:gOn ρ g=true->Sc (a.eval y) (q.val ρ):=fun hg=>lG hg hq (gY hR hg h2)
   split at h4
   ·rename_i a2d
    obtain rfl:=Fbt f a2d;refine dR hR hd h4 hs fun hg d qi=>?_
    have hx:=hx hg;have hy:=hy hg;simp only[Rby,Sbc]at qi;generalize p.val ρ=pv at hx qi;generalize q.val ρ=qv at hy qi;cases pv<;>cases qv<;>simp only[aS.run]at qi<;>first|(cases qi;done)|skip
    rename_i b c;simp only[Qb7,Sbz,and_true]at qi;subst qi;refine⟨.bool (if neg then !(b==c) else b==c),.bool _,?_⟩;unfold execOp;simp only[ho,hx.bool_inv,hy.bool_inv];refine gT ?_;rw[Sem.run_bind,pW (by simp) (.inl (by simp))]
    have he:(Op.equal t (.bool b) (.bool c)).run P w=.ok (b==c) w:=by
     unfold Op.equal Op.maxDepth;exact Abj f.und b c 9999
    exact Cab kO he (by simp) (by simp) (by simp) (by simp)
   ·rw[Zaf kO]at h4
    exact Paa hR hd ho hx hy h4 hs
  ·rw[iR]at h4
   split at h4
   ·
    rename_i fx;simp only[aC,Qb5,aO]at h4;obtain⟨_,h5,s,h6,r0,h8,h7⟩:=h4;split at h5
    ·rename_i hel
     obtain⟨e,rfl⟩:=Iau f hel
     have xk:aR cf ρ g nv r0.lets->(gOn ρ g=true->∀ z,s.x.val ρ=.rows z []->s.nie=true)->iL P E F σ ρ a w g o Q r0.upd:=by
      intro hs dz;refine Han hR hd ho kO h8 hs fun hg d hp=>?_
      have im:=eT hR h6 (gY hR hg h1);simp only[Rby,Sbc]at hp;have jq:=im.rd;have u5:∀ z,s.x.val ρ=.rows z []->a.eval x=.slice none 0 0:=fun z hz=>im.nie (dz hg z hz) z hz
      generalize s.x.val ρ=sv at hp jq u5;cases sv<;>simp only[aS.run]at hp<;>first|(cases hp;done)|skip
      rename_i sz rs;simp only[Qb7,Sbz,and_true]at hp;subst hp;obtain⟨A,b,n,c,vs,e1,e2,e3,e4,-⟩:=jq.inv
      have hy:∃ n' c',a.eval y=.slice none n' c':=by
       unfold Kav at fx;split at fx
       ·rename_i n' c';exact⟨n',c',rfl⟩
       ·cases fx
      obtain⟨n',c',hy⟩:=hy;refine⟨rs.isEmpty,rfl,?_,?_⟩
      ·rw[e1];exact pW (by simp) (.inl (by simp))
      ·have he:(Op.equal t (a.eval x) (a.eval y)).run P w=.ok rs.isEmpty w:=by
        unfold Op.equal Op.maxDepth
        cases hrs:rs with
        | nil =>
         rw[u5 sz (by rw[hrs]),hy];exact Fbc f.und _ _ _ _ 9999
        | cons r rs' =>
         have:A=some b:=e4.resolve_left (by rw[<- e2,hrs];simp);rw[e1,hy,this];exact Abi f.und _ _ _ _ _ 9999
       rw[e1]at he ⊢;exact Cab kO he (by simp) (by simp) (by simp) (by simp)
     simp only[aF,Qb7]at h7;subst h7
     cases hnie:s.nie with
     | true =>
      rw[hnie]at hs;exact xk hs fun _ _ _=>hnie
     | false =>
      rw[hnie]at hs;refine xk hs.2 fun hg z hz=>?_
      obtain⟨ds,h9,-⟩:=hs.1.1 hg;simp only[Rby,Sbc]at h9;rw[hz]at h9;simp[aS.run]at h9
    ·cases h5
   ·rw[iR]at h4
    split at h4
    ·
     rename_i fx;simp only[aC,Qb5,aO]at h4;obtain⟨_,h5,h6⟩:=h4;split at h5
     ·rename_i hpt
      obtain⟨e,rfl⟩:=Hbx f hpt
      have hy:a.eval y=.pointer none:=by
       unfold Uag at fx;split at fx
       ·rfl
       ·cases fx
      have heq:∀ A,a.eval x=.pointer A->(Op.equal t (a.eval x) (a.eval y)).run P w=.ok A.isNone w:=by
       intro A hA;unfold Op.equal Op.maxDepth;rw[hA,hy];exact Fbb f.und A 9999
      have cP:∀ A,a.eval x=.pointer A->(eqGuard op t x y (a.eval x) (a.eval y)).run P w=.ok () w/\(binOp op t (a.eval x) (a.eval y)).run P w=.ok (.bool (if neg then !A.isNone else A.isNone)) w:=by
       intro A hA;refine⟨by rw[hA];exact pW (by simp) (.inl (by simp)),?_⟩;have:=heq A hA;rw[hA]at this ⊢;exact Cab kO this (by simp) (by simp) (by simp) (by simp)
      have hconst:∀ (c:Bool) (nvx:Nat),(vI o g nv .id [.c (.bool c)]).eval σ=some res->(gOn ρ g=true->∃ A,a.eval x=.pointer A/\c=(if neg then !A.isNone else A.isNone))->iL P E F σ ρ a w g o Q res.upd:=by
       intro c _ h7 hc;refine dR hR hd h7 hs fun hg d hp=>?_
       simp only[Rby,Sbc,aP.val,aS.run,Qb7,Sbz,and_true]at hp;subst hp;obtain⟨A,hA,rfl⟩:=hc hg;refine⟨_,.bool _,?_⟩;unfold execOp;simp only[ho];refine gT ?_;rw[Sem.run_bind,(cP A hA).1];exact (cP A hA).2
      split at h6
      ·rename_i deps sz z
       simp only[aC,Qb5]at h6;obtain⟨ds,h7,h8⟩:=h6;refine Han hR hd ho kO h8 hs fun hg d hp=>?_
       have hl:=gY hR hg h1;simp only[dI,aD]at hl;simp only[Rby,Sbc]at hp
       rcases hl.2 (jX h7).1 with ⟨e1,z',e2⟩|⟨b,row,e1,e2,-⟩
       ·rw[e2]at hp
        simp only[aS.run,List.isEmpty_nil,Qb7,Sbz,and_true]at hp;exact⟨true,hp.symm,cP none e1⟩
       ·rw[e2]at hp
        simp only[aS.run,List.isEmpty_cons,Qb7,Sbz,and_true]at hp;exact⟨false,hp.symm,cP (some b) e1⟩
      ·refine hconst _ 0 h6 fun hg=>?_
       have hl:=gY hR hg h1;simp only[dI,aD]at hl;exact⟨none,hl,by cases neg<;>rfl⟩
      ·refine hconst _ 0 h6 fun hg=>?_
       have hl:=gY hR hg h1;simp only[dI,aD]at hl;exact⟨_,hl.1,by cases neg<;>rfl⟩
      ·refine hconst _ 0 h6 fun hg=>?_
       have hl:=gY hR hg h1;simp only[dI,aD]at hl;obtain⟨_,_,_,_,_,_,_,_,_,e⟩:=hl;exact⟨_,e,by cases neg<;>rfl⟩
      ·cases h6
     ·cases h5
    ·cases h4
 ·cases h3
end
section
variable {P:Program} {E:Env} {F:bQ} {σ:Nat->Option aU} {ρ:List D} {a:Act} {w w':World} {G:Gh} {g:Option (aP×Bool)} {o:Oper} {cf:Nat->List D->Option (List D)} {Q:Exit->Act->World->Prop} {next:Act->World->Prop}
theorem lT {t:TypeId}{i:TI}{info:TypeInfo}{u:TypeDesc}(f:dN P t i info u)(b:Addr)(cs:List Value)(hl:cs.length=i.size)
  (h:∀ j v,cs[j]?=some v->w.cell? (b.add j)=some v) {v:Value} (hv:if i.agg=true then v=.agg cs.toArray else cs=[v]):(loadVar t b).run P w=.ok v w:=by
 unfold loadVar;rw[Sem.run_bind,f.isAgg];simp only[Result.andThen_ok];split at hv
 ·rename_i ni
  rw[if_pos ni,Sem.run_bind,f.sizeOf];simp only[Result.andThen_ok];rw[Sem.run_bind,<- hl,run_loadCells_list w b cs h];simp only[Result.andThen_ok,Sem.run_pure,hv]
 ·rename_i ni
  rw[if_neg ni,run_load];have:=h 0 v (by rw[hv];rfl);simp only[Addr.add,if_true]at this;rw[this]
theorem nA (b:Addr):∀ (ls:List aT) (k:Nat),(∀ j l,ls[j]?=some l->∃ v,w.cell? (b.add (k+j))=some v/\aD σ ρ G w l v) ->
  ∃ vs,aH σ ρ G w ls vs/\∀ j v,vs[j]?=some v->w.cell? (b.add (k+j))=some v
 |[],k,_=>⟨[],by simp[aH],by simp⟩
 | l :: ls, k, h => by
  obtain⟨u,h1,h2⟩:=h 0 l rfl
  obtain⟨us,h3,h4⟩:=nA b ls (k+1) fun j l' hj=>by
   have:=h (j+1) l' (by simpa using hj);rwa[show k+1+j=k+(j+1) by omega]
  refine⟨u::us,by simp only[aH];exact⟨u,us,rfl,h2,h3⟩,fun j v hj=>?_⟩
  cases j with
  | zero =>
   simp only[Rbf,Qb7]at hj;exact hj▸h1
  | succ j =>
   have:=h4 j v (by simpa using hj);rwa[show k+(j+1)=k+1+j by omega]
theorem Aaf.snoc {own:Nat->Ow}{r k:Nat}{c:Addr}{n m:Nat}{u':Value}:∀ (p q:List Nat) (v:Value),Aaf own w r q v p (.slice (some c) n m)->own c.block=.slc r (q++p)->w.cell? (c.add k)=some u'->Aaf own w r q v (p++[k]) u'
 | [], q, v, h, ho, hc => by
  simp only[Aaf]at h;simp only[List.nil_append,Aaf];exact⟨c,n,m,u',h.symm,by simpa using ho,hc,rfl⟩
 | j :: p, q, v, h, ho, hc => by
  obtain⟨a',n',c',u1,rfl,h1,h2,h3⟩:=h;simp only[Tbq,Aaf];exact⟨a',n',c',u1,rfl,h1,h2,Aaf.snoc p (q++[j]) u1 h3 (by simpa using ho) hc⟩
theorem Rd.sc_inv {ok:Nat->Prop}{v:Value}{d:D}(h:Rd ok w v d)(hd:d.isSc=true):Sc v d:=by
 cases h with
 |sc h=>exact h
 |hole=>simp[D.isSc]at hd
 |rows=>simp[D.isSc]at hd
theorem Rp.zero {own:Nat->Ow}{r:Nat}{p:List Nat}{v:Value}{d:D}(h:Rp own w r p 0 v d):Rd (fun b=>own b=.frz) w v d:=by
 generalize hm:0=m at h
 cases h with
 |sc h=>exact .sc h
 |hole _ h1=>exact .hole _ h1
 |fz h=>exact h
 |sl=>omega
theorem Ab6 {s:SlR}{c:Addr}{n cap:Nat}(h:Was σ ρ G w s (.slice (some c) n cap)){sz:Nat}{rs:List (List D)}(hx:s.x.val ρ=.rows sz rs){i:aP}{k:IntKind}{iv:Int}(hi:i.val ρ=.int k iv)
  {row:List D} (hr:rs[iv.toNat]?=some row) {off:Nat} {d:D} (hd:row[off]?=some d) (ck:CK) (hk:Ibb ck=true->d.isSc=true) {y:aP} (hy:y.val ρ=d) :
  ∃ v,w.cell? (c.add (iv.toNat*sz+off))=some v/\aD σ ρ G w (kW s i sz off ck y) v:=by
 have jq:=h.rd;rw[hx]at jq;obtain⟨A,c',n',jt,vs,e1,e2,e3,e4,e5,e6,e7⟩:=jq.inv;obtain⟨rfl,rfl,rfl⟩:some c=A/\n=n'/\cap=jt:=by injection e1 with a b c;exact⟨a,b,c⟩
 have bh:iv.toNat<rs.length:=by
  rcases Rbu iv.toNat rs.length with h|h
  ·exact h
  ·rw[Tbl h]at hr;cases hr
 have hc:c=c':=by
  rcases e4 with e4|e4
  ·omega
  ·exact Rb5 e4
 subst hc;obtain⟨-,cV⟩:=e6 _ _ hr _ _ hd;have dq:=e7 _ _ hr _ _ hd;refine⟨_,cV,?_⟩
 cases ck with
 | sc z =>
  simp only[kW,aD];rw[hy];exact dq.sc_inv (hk rfl)
 |pn=>simpa only[kW,aD] using dq.one
 |ot=>simpa only[kW,aD] using dq.one
 | sl z =>
  have hex:∀ z∈s.deps,kF σ z.1 z.2:=fun z hz=>by
   obtain⟨m,hl⟩:=h.live z hz;exact hl.valid.known
  have a6k:aD σ ρ G w (.sn s.deps .no false y) (vs iv.toNat off):=by
   simp only[aD];exact⟨⟨dq.one,hex⟩,fun _=>⟨by rw[hy];exact dq,by simp,trivial⟩⟩
  simp only[kW];have cI:=h.own;unfold wR at cI;split
  ·rename_i r k' m p ho
   rw[ho]at cI;obtain⟨h1,h2,h3,h4,h5⟩:=cI;rw[hx]at h4
   cases hm:m-p.length with
   | zero =>
    have:Nat.ble (p.length+2) m=false:=by
     cases hb:Nat.ble (p.length+2) m with
     |false=>rfl
     |true=>simp only[Sbr]at hb;omega
    rw[this,cond_false];rw[hm]at h4;obtain⟨A',c'',n'',xq,u6,e1',e2',e3',rK,e5',e6',e7'⟩:=h4.zero.inv;obtain⟨rfl,rfl,rfl⟩:some c=A'/\n=n''/\cap=xq:=by injection e1' with a b c;exact⟨a,b,c⟩
    have hc:c=c'':=by
     rcases rK with rK|rK
     ·omega
     ·exact Rb5 rK
    subst hc;obtain⟨-,jn⟩:=e6' _ _ hr _ _ hd;rw[cV]at jn;simp only[aD];refine⟨⟨dq.one,by simp⟩,fun _=>⟨?_,by simp,trivial⟩⟩;rw[hy,Rb5 jn];exact (e7' _ _ hr _ _ hd).mono fun b hb=>⟨.inl hb,rfl⟩
   | succ m' =>
    rw[hm]at h4
    cases h4 with
    |sc h=>cases h
    | sl A' c'' n'' xq _ _ u6 e2' e3' rK e5' e6' e7' e8' =>
     have hc:c=c'':=by
      rcases rK with rK|⟨rK,-⟩
      ·exact Rb5 rK
      ·cases rK
     subst hc;obtain⟨-,mj,-⟩:=e6' rfl;have jn:=e7' _ _ hr _ _ hd;have ub:=e8' _ _ hr _ _ hd;rw[cV]at jn;rw[<- Rb5 jn]at ub
     cases hb:Nat.ble (p.length+2) m with
     | false =>
      rw[cond_false]
      have:m'=0:=by
       have:¬ p.length+2<=m:=by rw[<- Sbr,hb];simp
       omega
      subst this;simp only[aD];refine⟨⟨dq.one,by simp⟩,fun _=>⟨?_,by simp,trivial⟩⟩;rw[hy];exact ub.zero.mono fun b hb=>⟨.inl hb,rfl⟩
     | true =>
      rw[cond_true];simp only[Sbr]at hb
      have hpv:bG ρ (p++[(i,sz,off)])=bG ρ p++[iv.toNat*sz+off]:=by
       simp[bG,mO,hi]
      simp only[aD];refine⟨⟨dq.one,fun z hz=>?_⟩,fun _=>⟨?_,by simp,?_⟩⟩
      ·simp only[Rbb]at hz
       subst hz;exact h2.valid.known
      ·rw[hy]
       rw[h1]at dq;exact dq
      ·simp only[Da0]
       intro r2 k2 m2 e2 ka;obtain⟨rfl,rfl⟩:r=r2/\k'=k2:=by simpa using e2
       obtain⟨x1,ex1⟩:=h2;obtain⟨x2,vg⟩:=ka;rw[ex1]at vg;obtain rfl:m=m2:=by injection vg with vg;injection vg
       refine⟨by simp;omega,?_,?_⟩
       ·rw[hpv,hy,show m-(p++[(i,sz,off)]).length=m' by simp;omega]
        exact ub
       ·rw[hpv]
        exact h5.snoc _ _ _ (by simpa using mj) cV
  ·exact a6k
theorem Iaa:∀ {ks:List Bool} {ds:List D},Eat ks ds=true->∀ (j:Nat) (d:D),ks[j]?=some true->ds[j]?=some d->d.isSc=true
 |[],ds,_,j,d,hk,_=>by simp at hk
 |k::ks,[],h,j,d,hk,hd=>by simp at hd
 | k :: ks, e :: ds, h, j, d, hk, hd => by
  simp only[Eat,Qb6,Sbv,Rb0]at h
  cases j with
  | zero =>
   simp only[Rbf,Qb7]at hk hd;subst hk hd;simpa using h.1
  |succ j=>exact Iaa h.2 j d (by simpa using hk) (by simpa using hd)
theorem Eae {t:TypeId}{b:Addr}{v:Value}(h:(loadVar t b).run P w=.ok v w):(Instr.loadAt t (.pointer (some b))).run P w=.ok v w:=by
 simp only[Instr.loadAt,Instr.sureAddr,Sem.run_bind,Sem.run_pure,Result.andThen_ok,h]
theorem yO (s:SlR)(i:aP)(sz:Nat):∀ (cs:List CK) (off y j:Nat) (l:aT),(fO s i sz off cs y)[j]?=some l->∃ c,cs[j]?=some c/\l=kW s i sz (off+j) c (.v (y+j))
 |[],off,y,j,l,h=>by simp[fO]at h
 | c :: cs, off, y, j, l, h => by
  simp only[fO]at h
  cases j with
  | zero =>
   simp only[Rbf,Qb7]at h;exact⟨c,rfl,h.symm⟩
  | succ j =>
   obtain⟨c',h1,h2⟩:=yO s i sz cs (off+1) (y+1) j l (by simpa using h);exact⟨c',by simpa using h1,by rw[h2];congr 1<;>first|omega|(congr 1;omega)⟩
theorem yN (s:SlR)(i:aP)(sz:Nat):∀ (cs:List CK) (off y:Nat),(fO s i sz off cs y).length=cs.length
 |[],_,_=>rfl
 |c::cs,off,y=>by simp[fO,yN s i sz cs (off+1) (y+1)]
theorem Da8 {agg:Bool}{ls:List aT}{sv:SV}(h:Tat agg ls=some sv){vs:List Value}(hl:vs.length=ls.length):∃ v,if agg=true then v=.agg vs.toArray else vs=[v]:=by
 cases agg with
 |true=>exact⟨_,rfl⟩
 | false =>
  simp only[Tat,cond_false]at h;split at h
  ·match vs,hl with
   |[v],_=>exact⟨v,rfl⟩
  ·cases h
theorem Yaw {sz off:Nat}{ks:List Bool}{x i:D}{ds:List D}(h:(aS.row sz off ks).run [x,i]=some ds) :
  ∃ rs k iv row,x=.rows sz rs/\i=.int k iv/\0<=iv/\rs[iv.toNat]?=some row/\off+ks.length<=row.length/\Eat ks (row.drop off)=true/\ds=(row.drop off).take ks.length:=by
 cases x<;>cases i<;>simp only[aS.run]at h<;>first|cases h|skip
 rename_i n9 rs k iv;split at h
 ·rename_i h1
  obtain⟨rfl,h1⟩:=h1;split at h
  ·rename_i row hr
   split at h
   ·rename_i h2
    simp only[Qb7]at h;exact⟨rs,k,iv,row,rfl,rfl,h1,hr,h2.1,h2.2,h.symm⟩
   ·cases h
  ·cases h
 ·cases h
theorem Van (hR:R E.ntmps F σ ρ a w G)(hd:gG E.ntmps o)(hti:wU P E.ti){nv:Nat}{t:TypeId}{x:Operand}(ho:o.op=.load t x){ti:TI}
  (hi:E.ti t=some ti) {p:aT} (hp:gOn ρ g=true->aD σ ρ G w p (a.eval x)) {res:cK}
  (h:(Tan nv o g ti p).eval σ=some res) (hs:aR cf ρ g nv res.lets):iL P E F σ ρ a w g o Q res.upd:=by
 obtain⟨info,u,f⟩:=bD (hti.ok _ _ hi)
 have hex:∀ {v:Value},(Instr.loadAt t (a.eval x)).run P w=.ok v w->(execOp a.eval o).run P w=.ok (.value v) w:=by
  intro v hv;unfold execOp;simp only[ho];exact gT hv
 unfold Tan at h;split at h
 ·rename_i b off
  simp only[aC,aW,Rbe]at h;split at h
  ·rename_i ro bs hk
   simp only[aC,Qb5,aO]at h;obtain⟨_,gv,h⟩:=h;split at gv
   ·rename_i hle
    simp only[Sbr]at hle;split at h
    ·rename_i sv iq
     refine zF hR hd h hs fun hg=>?_
     have hl:=hp hg;simp only[aD]at hl;obtain⟨h1,h2,h3⟩:=hR.box hk
     obtain⟨vs,h4,h5⟩:=nA (σ:=σ) (ρ:=ρ) (G:=G) (w:=w) ((G.bx b).add off) ((bs.drop off).take ti.size) 0 fun j l hj=>by
      rw[Sbe]at hj;split at hj
      ·rw[Sba]at hj
       obtain⟨v,h6,-,h7⟩:=h3 _ _ hj;refine⟨v,?_,h7⟩;rw[Rb2,add_add];exact h6
      ·cases hj
     have hlen:vs.length=ti.size:=by
      rw[h4.len];simp;omega
     obtain⟨v,hv⟩:=Da8 iq h4.len;refine⟨v,uY iq h4 hv,hex ?_⟩;rw[hl.1];exact Eae (lT f _ vs hlen (fun j v hj=>by simpa using h5 j v hj) hv)
    ·cases h
   ·cases gv
  ·cases h
 ·rename_i l sz i off
  simp only[aC,Qb5]at h;obtain⟨s,im,h⟩:=h
  have main:∀ (ks:List Bool) (ds:List D),(∀ (j:Nat) (c:CK),ti.cells[j]?=some c->Ibb c=true->ks[j]?=some true)->ks.length=ti.cells.length->gOn ρ g=true ->
    (aS.row sz off ks).run [s.x.val ρ,i.val ρ]=some ds->(∀ j d,ds[j]?=some d->(aP.v (nv+j)).val ρ=d) ->
    ∃ vs,aH σ ρ G w (fO s i sz off ti.cells nv) vs/\vs.length=ti.size/\∃ b,a.eval x=.pointer (some b)/\∀ j v,vs[j]?=some v->w.cell? (b.add j)=some v:=by
   intro ks ds hks nx hg cP ig;have hl:=hp hg;simp only[aD]at hl;obtain⟨b,n,c,k,iv,h1,h2,h3,h4,h5⟩:=hl;have a7q:=eT hR im h1;obtain⟨rs,k',iv',row,e1,e2,e3,e4,e5,e6,rfl⟩:=Yaw cP;rw[h2]at e2;obtain⟨rfl,rfl⟩:k=k'/\iv=iv':=by injection e2 with a b;exact⟨a,b⟩
   obtain⟨vs,h6,h7⟩:=nA (σ:=σ) (ρ:=ρ) (G:=G) (w:=w) (b.add (iv.toNat*sz+off)) (fO s i sz off ti.cells nv) 0 fun j l' hj=>by
    obtain⟨c',gl,rfl⟩:=yO _ _ _ _ _ _ _ _ hj;have nu:j<ti.cells.length:=(Qb8.1 gl).1;have gr:row[off+j]?=some row[off+j]:=Rba (by omega)
    obtain⟨v,uu,hv2⟩:=Ab6 a7q e1 h2 e4 (off:=off+j) (d:=row[off+j]) gr c' (fun kz=>Iaa e6 j _ (hks j c' gl kz) (by rw[Sba];exact gr)) (y:=.v (nv+j))
     (ig j _ (by rw[Sbe,if_pos (by omega),Sba];exact gr))
    refine⟨v,?_,hv2⟩;rw[add_add,Rb2,Rbp];exact uu
   exact⟨vs,h6,by rw[h6.len,yN,f.len],_,h5,fun j v hj=>by simpa using h7 j v hj⟩
  split at h
  ·rename_i x' iq
   have rl:x'=.v nv/\ti.agg=false/\∃ z,ti.cells=[.sc z]:=by
    unfold Tat at iq
    cases ni:ti.agg with
    |true=>rw[ni]at iq;simp at iq
    | false =>
     rw[ni]at iq;simp only[cond_false]at iq
     cases hc:ti.cells with
     |nil=>rw[hc]at iq;simp[fO]at iq
     | cons c cs =>
      cases cs with
      | nil =>
       rw[hc]at iq;simp only[fO,Qb7,SV.one.injEq]at iq
       cases c with
       |sc z=>simp only[kW,aT.sc.injEq]at iq;exact⟨iq.symm,rfl,z,rfl⟩
       | sl z =>
        simp only[kW]at iq;split at iq
        ·cases hb:Nat.ble _ _<;>(rw[hb]at iq;cases iq)
        ·cases iq
       |pn=>simp[kW]at iq
       |ot=>simp[kW]at iq
      |cons c' oX=>rw[hc]at iq;simp[fO]at iq
   obtain⟨rfl,ni,z,gE⟩:=rl
   have cT:aR cf ρ g nv [.prim (.row sz off [true]) [s.x,i] 1]:=by
    simp only[vI,aF,Qb7]at h;subst h;exact hs
   refine dR hR hd h hs fun hg d hpr=>?_
   obtain⟨d',h1,h2⟩:=gW cT hg;simp only[Rby,Sbc]at hpr h1
   obtain⟨vs,h3,h4,b,h5,h6⟩:=main [true] [d'] (fun j c hc _=>by
    rw[gE]at hc
    cases j with
    |zero=>rfl
    | succ j => simp at hc) (by rw [gE]; rfl) hg h1 (fun j d hj => by
     cases j with
     |zero=>simp only[Rbf,Qb7]at hj;rw[<- hj];exact h2
     |succ j=>simp at hj)
   obtain⟨v,hv⟩:=Da8 iq h3.len;have h7:=uY iq h3 hv;simp only[dI,aD]at h7;refine⟨v,?_,hex ?_⟩
   ·rw[h2]at h7
    rw[h1]at hpr;simp only[Qb7,Sbz,and_true]at hpr;exact hpr▸h7
   ·rw[h5]
    exact Eae (lT f b vs h4 h6 hv)
  ·rename_i sv _ iq
   refine dZ hR hd h hs fun hg cT=>?_
   obtain⟨ds,h1,h2,h3⟩:=step1 cT hg;simp only[Rby,Sbc]at h1;obtain⟨vs,h4,h5,b,h6,h7⟩:=main _ ds (fun j c hc kz=>by rw[Sbd,hc];simp[kz]) (by simp) hg h1 h3;obtain⟨v,hv⟩:=Da8 iq h4.len;refine⟨v,uY iq h4 hv,hex ?_⟩;rw[h6];exact Eae (lT f b vs h5 h7 hv)
  ·cases h
 ·cases h
end
section
variable {P:Program} {E:Env} {F:bQ} {σ:Nat->Option aU} {ρ:List D} {a:Act} {w w':World} {G:Gh} {g:Option (aP×Bool)} {o:Oper} {cf:Nat->List D->Option (List D)} {Q:Exit->Act->World->Prop} {next:Act->World->Prop}
theorem Ia4:∀ {rs:List (List D)} {l:List UInt8},bytesOf rs=some l->∃ ns:List Int,rs=ns.map (fun n=>[D.int .u8 n])/\l=ns.map fun n=>UInt8.ofNat n.toNat
 | [], l, h => by
  simp only[bytesOf,Qb7]at h;exact⟨[],rfl,h.symm⟩
 | r :: rs, l, h => by
  unfold bytesOf at h;split at h
  ·rename_i hh;cases hh
  ·rename_i n r' hh
   obtain⟨rfl,rfl⟩:=Ub2 hh;simp only[Rbo]at h;obtain⟨l',h1,rfl⟩:=h;obtain⟨ns,rfl,rfl⟩:=Ia4 h1;exact⟨n::ns,rfl,rfl⟩
  ·cases h
theorem Vap (hR:R E.ntmps F σ ρ a w G)(hd:gG E.ntmps o)(hti:wU P E.ti){nv:Nat}{src dst:TypeId}{x:Operand}(ho:o.op=.convert src dst x){res:cK}{s d ei:TI}{e:Nat}
  (ky:E.ti src=some s) (he:s.elem=some e) (si:E.ti e=some ei) (hk:Pby ei.ik=true) (iy:E.ti dst=some d) (hdS:d.isStr=true)
  {l:aT} {r:SlR} (h1:(rdL E g src x).eval σ=some l) (h2:(zH l).eval σ=some r)
  (h:(vI o g nv .bstr [r.x]).eval σ=some res) (hs:aR cf ρ g nv res.lets):iL P E F σ ρ a w g o Q res.upd:=by
 refine dR hR hd h hs fun hg z hp=>?_
 obtain⟨i1,u1,f1⟩:=bD (hti.ok _ _ ky);obtain⟨i2,u2,f2⟩:=bD (hti.ok _ _ iy);obtain⟨i3,u3,f3⟩:=bD (hti.ok _ _ si);obtain rfl:=sQ f1 he;obtain rfl:=Da9 f2 hdS
 have e3:u3=.int .u8:=by
  unfold Pby at hk;split at hk
  ·rename_i k kd
   simp only[Nbv,decide_eq_true_eq]at hk;have:=f3.ik.symm.trans kd;unfold Nbr at this;split at this
   ·rw[Rb5 this,hk]
   ·cases this
  ·cases hk
 subst e3;have hl:=(eT hR h2 (gJ hR hg h1)).rd;simp only[Rby,Sbc]at hp;generalize r.x.val ρ=xv at hp hl;cases xv<;>simp only[aS.run]at hp<;>first|cases hp|skip
 rename_i sz rs;simp only[Rbo,Sbz,and_true]at hp;obtain⟨bs,hb,rfl⟩:=hp;obtain⟨ns,rfl,rfl⟩:=Ia4 hb;obtain⟨A,b,n,c,vs,e1,e2,e3,e4,e5,e6,e7⟩:=hl.inv;refine⟨_,.str _,?_⟩;unfold execOp;simp only[ho];refine gT ?_;rw[e1,run_convert_bytes_string w src dst e A n c f1.und f3.und f2.und]
 cases A with
 | none =>
  have:n=0:=by
   rcases e4 with e4|e4
   ·exact e4
   ·cases e4
  subst this;simp only[Rb4]at e2;obtain rfl:=Sb5 e2;simp[Conv.bytesToString];rfl
 | some b' =>
  have tD:(loadCells b' n).run P w=.ok (ns.map (Value.int .u8)).toArray w:=by
   simp only[Rb4]at e2
   have:=run_loadCells_list (P:=P) w b' (ns.map (Value.int .u8)) (fun j v hj=>by
    simp only[Sbd,Rbo]at hj;obtain⟨m,hm,rfl⟩:=hj;have hr:(ns.map fun n=>[D.int .u8 n])[j]?=some [D.int .u8 m]:=by rw[Sbd,hm];rfl
    have h9:=e6 j _ hr 0 _ rfl;have eo:=(e7 j _ hr 0 _ rfl).sc_inv rfl
    have ej:sz=1:=by
     have:=e5 _ (Rbn hr);simpa using this.symm
    have jd:j<ns.length:=(Qb8.1 hm).1
    have e9:b'=b:=by
     rcases e4 with e4|e4
     ·omega
     ·exact Rb5 e4
    subst e9 ej;rw[eo.int_inv]at h9;simpa using h9.2)
   simpa[e2] using this
  rw[run_bytesToString w b' n c ns tD,foldl_push_bytes];simp[ByteArray.empty,ByteArray.emptyWithCapacity];rfl
theorem Oa8 (hR:R E.ntmps F σ ρ a w G)(hd:gG E.ntmps o)(hti:wU P E.ti){nv:Nat}{src dst:TypeId}{x:Operand}(ho:o.op=.convert src dst x){res:cK}{s d:TI}
  (ky:E.ti src=some s) (hsS:s.isStr=true) (iy:E.ti dst=some d) (hdS:d.isStr=true) {x':aP} (h1:(rdA E g src x).eval σ=some x')
  (h:(vI o g nv .sid [x']).eval σ=some res) (hs:aR cf ρ g nv res.lets):iL P E F σ ρ a w g o Q res.upd:=by
 refine dR hR hd h hs fun hg z hp=>?_
 obtain⟨i1,u1,f1⟩:=bD (hti.ok _ _ ky);obtain⟨i2,u2,f2⟩:=bD (hti.ok _ _ iy);obtain rfl:=Da9 f1 hsS;obtain rfl:=Da9 f2 hdS;have hl:=kL hR hg h1;simp only[Rby,Sbc]at hp;generalize x'.val ρ=xv at hp hl;cases xv<;>simp only[aS.run]at hp<;>first|cases hp|skip
 refine⟨_,.str _,?_⟩;unfold execOp;simp only[ho,hl.str_inv];refine gT ?_;simp only[convert,Sem.run_bind,run_underlying f1.und,run_underlying f2.und,Result.andThen_ok];rfl
theorem Kab {is:Bool}{len cap:Nat}{lo hi:Option Value}{kl kh:IntKind}{l h:Int}(mn:(lo=none/\l=0)\/lo=some (.int kl l))(sd:(hi=none/\h=len)\/(hi=some (.int kh h)/\h<=cap))(h0:0<=l)(h1:l<=h) :
  (Instr.sliceBounds is len cap lo hi none).run P w=.ok (l.toNat,h.toNat,cap) w:=by
 rcases sd with ⟨rfl,rfl⟩|⟨rfl,hc⟩<;>rcases mn with ⟨rfl,rfl⟩|rfl
 ·simp[Instr.sliceBounds]
 ·have e2:0<=l/\l<=(len:Int):=⟨h0,by omega⟩
  simp[Instr.sliceBounds,Instr.sliceBound,asIntOf,e2]
 ·have e1:0<=h/\h<=(cap:Int):=⟨by omega,hc⟩
  simp[Instr.sliceBounds,Instr.sliceBound,asIntOf,e1]
 ·have e1:0<=h/\h<=(cap:Int):=⟨by omega,hc⟩
  have e2:0<=l/\l<=(h.toNat:Int):=⟨h0,by omega⟩;have e3:0<=l/\l<=max h 0:=⟨h0,by omega⟩;simp[Instr.sliceBounds,Instr.sliceBound,asIntOf,e1,e2,e3]
theorem Ua6 {ei:TI}{lo fl:Bool}{s:SlR}{p:Pth}(h:Jas ei lo s=(p,fl)):(p=.no) \/
  (p=.view/\∃ r k m q,s.own=some (r,k,m,q)/\(q=.path []\/q=.view)/\(m=1\/lo=false\/fl=true)):=by
 unfold Jas at h
 have one:∀ m:Nat,(bif Nat.beq m 1||!lo then (Pth.view,false) else bif Oao ei.cells then (Pth.view,true) else (Pth.no,false))=(p,fl)->p=.no\/(p=.view/\(m=1\/lo=false\/fl=true)):=by
  intro m h
  cases hb:(Nat.beq m 1||!lo) with
  | true =>
   rw[hb]at h;simp only[cond_true,Rbx]at h;simp only[Sbv,Rb3,Rb0]at hb;exact .inr ⟨h.1.symm,hb.imp id .inl⟩
  | false =>
   rw[hb]at h
   cases hn:Oao ei.cells with
   | true =>
    rw[hn]at h;simp only[cond_false,cond_true,Rbx]at h;exact .inr ⟨h.1.symm,.inr (.inr h.2.symm)⟩
   | false =>
    rw[hn]at h;simp only[cond_false,Rbx]at h;exact .inl h.1.symm
 split at h
 ·rename_i r k m ho
  exact (one _ h).imp id fun ⟨h1,h2⟩=>⟨h1,_,_,_,_,ho,.inl rfl,h2⟩
 ·rename_i r k m ho
  exact (one _ h).imp id fun ⟨h1,h2⟩=>⟨h1,_,_,_,_,ho,.inr rfl,h2⟩
 ·simp only[Rbx]at h
  exact .inl h.1.symm
theorem Ra1 {sz:Nat}{fl:Bool}{x i j:D}{ds:List D}(h:(aS.sub sz fl).run [x,i,j]=some ds) :
  ∃ rs ki kj lo hi,x=.rows sz rs/\i=.int ki lo/\j=.int kj hi/\(fl=true->∀ r∈rs,∀ d∈r,d.isSc=true)/\0<=lo/\lo<=hi/\hi<=rs.length/\ds=[.rows sz ((rs.take hi.toNat).drop lo.toNat)]:=by
 cases x<;>cases i<;>cases j<;>simp only[aS.run]at h<;>first|cases h|skip
 split at h
 ·rename_i h1
  obtain⟨rfl,h1,h2,h3,h4⟩:=h1;simp only[Qb7]at h;refine⟨_,_,_,_,_,rfl,rfl,rfl,fun hf=>?_,h2,h3,h4,h.symm⟩;rw[hf]at h1;simp only[Bool.not_true,Bool.false_or,Rb6]at h1;exact fun r hr d hd=>h1 r hr d hd
 ·cases h
theorem Mav {rs:List (List D)}{lo hi i:Nat}{r:List D}(h:((rs.take hi).drop lo)[i]?=some r):rs[lo+i]?=some r/\lo+i<hi:=by
 rw[Sba,Sbe]at h;split at h
 ·rename_i hl;exact⟨h,hl⟩
 ·cases h
theorem Rd.part {ok:Nat->Prop}{A:Option Addr}{n c sz:Nat}{rs:List (List D)}(h:Rd ok w (.slice A n c) (.rows sz rs)){lo hi:Nat}(h1:lo<=hi)(h2:hi<=n) :
  Rd ok w (.slice (if c=lo then A else A.map (·.add (lo*sz))) (hi-lo) (c-lo)) (.rows sz ((rs.take hi).drop lo)):=by
 obtain⟨A',b,n',c',vs,e1,e2,e3,e4,e5,e6,e7⟩:=h.inv;obtain⟨rfl,rfl,rfl⟩:A=A'/\n=n'/\c=c':=by injection e1 with a b c;exact⟨a,b,c⟩
 refine .rows _ (b.add (lo*sz)) _ _ sz _ (fun i j=>vs (lo+i) j) (by simp;omega) (by omega) ?_ (fun r hr=>?_) (fun i r gA j d hj=>?_) (fun i r gA j d hj=>?_)
 ·by_cases hz:hi-lo=0
  ·exact .inl hz
  ·refine .inr ?_
   have hA:A=some b:=e4.resolve_left (by omega);rw[if_neg (by omega),hA];rfl
 ·exact e5 r (Tb4 (Sbx hr))
 ·obtain⟨h3,h4⟩:=Mav gA
  obtain⟨h5,h6⟩:=e6 _ _ h3 _ _ hj;refine⟨by rw[add_block];exact h5,?_⟩;rw[add_add,show lo*sz+(i*sz+j)=(lo+i)*sz+j by rw[Nat.add_mul,Rbp]];exact h6
 ·obtain⟨h3,h4⟩:=Mav gA
  exact e7 _ _ h3 _ _ hj
theorem Rp.sc_inv {own:Nat->Ow}{r m:Nat}{p:List Nat}{v:Value}{d:D}(h:Rp own w r p m v d)(hd:d.isSc=true):Sc v d:=by
 cases h with
 |sc h=>exact h
 |hole=>simp[D.isSc]at hd
 |fz h=>exact h.sc_inv hd
 |sl=>simp[D.isSc]at hd
theorem Rp.part {own:Nat->Ow}{r m:Nat}{p:List Nat}{A:Option Addr}{n c sz:Nat}{rs:List (List D)}(h:Rp own w r p m (.slice A n c) (.rows sz rs)){lo hi:Nat}(h1:lo<=hi)(h2:hi<=n)
  (hc:m=1\/lo=0\/∀ r∈rs,∀ d∈r,d.isSc=true) :
  Rp own w r p m (.slice (if c=lo then A else A.map (·.add (lo*sz))) (hi-lo) (c-lo)) (.rows sz ((rs.take hi).drop lo)):=by
 generalize hv:Value.slice A n c=v at h;generalize hx:D.rows sz rs=x at h
 cases h with
 |sc h=>subst hx;cases h
 |hole=>cases hx
 |fz h=>subst hv hx;exact .fz (h.part h1 h2)
 | sl A' b n' c' n9 rs' vs hn gl hA ej cI cV dq =>
  obtain⟨rfl,rfl,rfl⟩:A=A'/\n=n'/\c=c':=by injection hv with a b c;exact⟨a,b,c⟩
  obtain⟨rfl,rfl⟩:sz=n9/\rs=rs':=by injection hx with a b;exact⟨a,b⟩
  rename_i m';refine .sl _ (if c=lo then b else b.add (lo*sz)) _ _ sz _ (fun i j=>vs (lo+i) j) (by simp;omega) (by omega) ?_ (fun r hr=>?_) (fun e=>?_) (fun i r' gA j d hj=>?_) (fun i r' gA j d hj=>?_)
  ·rcases hA with hA|⟨hA,h0⟩
   ·refine .inl ?_
    rw[hA];by_cases h:c=lo
    ·rw[if_pos h,if_pos h]
    ·rw[if_neg h,if_neg h];rfl
   ·refine .inr ⟨?_,by omega⟩
    rw[hA];split<;>rfl
  ·exact ej r (Tb4 (Sbx hr))
  ·have xf:A=some b:=by
    rcases hA with hA|⟨hA,h0⟩
    ·exact hA
    ·rw[hA]at e
     split at e<;>cases e
   obtain⟨h3,h4,h5⟩:=cI xf;by_cases h:c=lo
   ·rw[if_pos h]
    exact⟨h3,h4,fun k hk=>by rw[h,Nat.sub_self,Nat.zero_mul]at hk;omega⟩
   ·rw[if_neg h]
    refine⟨?_,by rw[add_block];exact h4,fun k hk=>?_⟩
    ·unfold Addr.add;split
     ·exact h3
     ·rfl
    ·rw[add_add]
     refine h5 _ ?_;rw[Nat.sub_mul]at hk;omega
  ·obtain⟨h3,h4⟩:=Mav gA
   rw[if_neg (by omega),add_add,show lo*sz+(i*sz+j)=(lo+i)*sz+j by rw[Nat.add_mul,Rbp]];exact cV _ _ h3 _ _ hj
  ·obtain⟨h3,h4⟩:=Mav gA
   have:=dq _ _ h3 _ _ hj
   rcases hc with hc|hc|hc
   ·obtain rfl:m'=0:=by omega
    exact .fz this.zero
   ·subst hc
    simpa using this
   ·exact .sc (this.sc_inv (hc r' (Rbn h3) d (Rbn hj)))
theorem xD {t e:TypeId}{x:Operand}{lo hi:Option Operand}(ho:o.op=.slice t x lo hi none)(hu:P.underlying t=some (.slice e)){size:Nat}(ej:(sizeOf e).run P w=.ok size w)
  {A:Option Addr} {n c:Nat} (hx:a.eval x=.slice A n c) {kl kh:IntKind} {l h:Int} (mn:(lo=none/\l=0)\/lo.map a.eval=some (.int kl l)) (sd:(hi=none/\h=n)\/(hi.map a.eval=some (.int kh h)/\h<=c)) (h0:0<=l) (h1:l<=h) :
  (execOp a.eval o).run P w=.ok (.value (.slice (if c=l.toNat then A else A.map (·.add (l.toNat*size))) (h.toNat-l.toNat) (c-l.toNat))) w:=by
 unfold execOp;simp only[ho];refine gT ?_;have hb:=Kab (P:=P) (w:=w) (is:=true) (len:=n) (cap:=c) (lo:=lo.map a.eval) (hi:=hi.map a.eval) (kl:=kl) (kh:=kh) (l:=l) (h:=h) (mn.imp (fun ⟨h1,h2⟩=>⟨by rw[h1];rfl,h2⟩) id) (sd.imp (fun ⟨h1,h2⟩=>⟨by rw[h1];rfl,h2⟩) id) h0 h1;simp only[Instr.sliceAt,Instr.slice,Sem.run_bind,run_underlying hu,Result.andThen_ok,hx,Option.map_none,hb,ej,Sem.run_pure]
end
section
variable {P:Program} {E:Env} {F:bQ} {σ:Nat->Option aU} {ρ:List D} {a:Act} {w w':World} {G:Gh} {g:Option (aP×Bool)} {o:Oper} {cf:Nat->List D->Option (List D)} {Q:Exit->Act->World->Prop} {next:Act->World->Prop}
theorem xO {g:Option (aP×Bool)}(h:noG g=true):g=none:=by
 cases g with
 |none=>rfl
 |some _=>cases h
theorem Cam {p:aS}{xs:List aP}{nv:Nat}(h:Ua4 cf ρ g nv (.prim p xs 1))(hg:gOn ρ g=true) :
  ∃ d,p.run (xs.map (·.val ρ))=some [d]/\(aP.v nv).val ρ=d:=gW (cf:=cf) (nv:=nv) ⟨h,trivial⟩ hg
theorem Ba9 {t:TypeId}{x:Operand}{lo hi:Option Operand}(ho:o.op=.slice t x lo hi none)(hu:P.underlying t=some .string)
  {s:List UInt8} (hx:a.eval x=.string ⟨s.toArray⟩) {kl kh:IntKind} {l h:Int} (mn:(lo=none/\l=0)\/lo.map a.eval=some (.int kl l)) (sd:(hi=none/\h=s.length)\/(hi.map a.eval=some (.int kh h)/\h<=s.length)) (h0:0<=l) (h1:l<=h) :
  (execOp a.eval o).run P w=.ok (.value (.string ⟨((s.take h.toNat).drop l.toNat).toArray⟩)) w:=by
 unfold execOp;simp only[ho];refine gT ?_;have hb:=Kab (P:=P) (w:=w) (is:=false) (len:=s.length) (cap:=s.length) (lo:=lo.map a.eval) (hi:=hi.map a.eval) (kl:=kl) (kh:=kh) (l:=l) (h:=h) (mn.imp (fun ⟨h1,h2⟩=>⟨by rw[h1];rfl,h2⟩) id) (sd.imp (fun ⟨h1,h2⟩=>⟨by rw[h1];rfl,h2⟩) id) h0 h1;have hlen:(⟨s.toArray⟩:ByteArray).size=s.length:=rfl;simp only[Instr.sliceAt,Instr.slice,Sem.run_bind,run_underlying hu,Result.andThen_ok,hx,Option.map_none,Option.isSome_none,Rbk,if_false,hlen,hb,Sem.run_pure];congr 2;apply ByteArray.ext;rw[ByteArray.data_extract];apply Ub1;simp[List.drop_take,List.extract]
theorem Tav {x i j:D}{ds:List D}(h:aS.ssub.run [x,i,j]=some ds) :
  ∃ s ki kj lo hi,x=.str s/\i=.int ki lo/\j=.int kj hi/\0<=lo/\lo<=hi/\hi<=s.length/\ds=[.str ((s.take hi.toNat).drop lo.toNat)]:=by
 cases x<;>cases i<;>cases j<;>simp only[aS.run]at h<;>first|cases h|skip
 split at h
 ·rename_i h1
  simp only[Qb7]at h;exact⟨_,_,_,_,_,rfl,rfl,rfl,h1.1,h1.2.1,h1.2.2,h.symm⟩
 ·cases h
theorem Ta9 {lo:Bool}{s:SlR}{ei:TI}{p:Pth}{fl:Bool}(uk:Jas ei lo s=(p,fl)){A:Option Addr}{n c sz:Nat}(im:Was σ ρ G w s (.slice A n c)){rs:List (List D)}(hx:s.x.val ρ=.rows sz rs)
  {l h:Nat} (h1:l<=h) (h2:h<=n) (mn:lo=false->l=0) (ic:fl=true->∀ r∈rs,∀ d∈r,d.isSc=true) {y:aP} (hy:y.val ρ=.rows sz ((rs.take h).drop l)) :
  aD σ ρ G w (.sn s.deps p false y) (.slice (if c=l then A else A.map (·.add (l*sz))) (h-l) (c-l)):=by
 simp only[aD];refine⟨⟨rfl,fun z hz=>?_⟩,fun _=>⟨?_,by simp,?_⟩⟩
 ·obtain⟨m,hl⟩:=im.live z hz
  exact hl.valid.known
 ·rw[hy]
  exact Rd.part (hx▸im.rd) h1 h2
 ·rcases Ua6 uk with rfl|⟨rfl,r,k,m,q,ho,hq,hc⟩
  ·trivial
  ·intro r2 k2 m2 e2 ka
   have cI:=im.own;unfold wR at cI;rw[ho]at cI;obtain⟨h3,⟨x1,h4⟩,h5⟩:=cI;rw[h3]at e2;obtain⟨rfl,rfl⟩:r=r2/\k=k2:=by simpa using e2
   obtain⟨x2,vg⟩:=ka;rw[h4]at vg;obtain rfl:m=m2:=by injection vg with vg;injection vg
   have gj:Rp G.own w r [] m (.slice A n c) (.rows sz rs):=by
    rw[<- hx]
    rcases hq with rfl|rfl
    ·simpa[bG] using h5.2.1
    ·exact h5
   rw[hy];refine gj.part h1 h2 ?_
   rcases hc with hc|hc|hc
   ·exact .inl hc
   ·exact .inr (.inl (mn hc))
   ·exact .inr (.inr (ic hc))
theorem Zaa {lo:Bool}{s:SlR}{ei:TI}{p:Pth}{fl:Bool}(uk:Jas ei lo s=(p,fl)){A:Option Addr}{n c sz:Nat}(im:Was σ ρ G w s (.slice A n c)){rs:List (List D)}(hx:s.x.val ρ=.rows sz rs)
  {l:Nat} (h1:l<=n) (mn:lo=false->l=0) (ic:fl=true->∀ r∈rs,∀ d∈r,d.isSc=true) {y:aP} (hy:y.val ρ=.rows sz ((rs.take n).drop l)) {lx:aP} (hl:mO ρ lx=l) :
  aD σ ρ G w (.sn s.deps (Hbe p sz lx s) false y) (.slice (if c=l then A else A.map (·.add (l*sz))) (n-l) (c-l)):=by
 have h0:=Ta9 uk im hx h1 (Nat.le_refl n) mn ic hy;unfold Hbe;split
 ·rename_i r k m ho
  simp only[aD]at h0 ⊢;refine⟨h0.1,fun hv=>⟨(h0.2 hv).1,(h0.2 hv).2.1,?_⟩⟩;intro r2 k2 m2 e2 ka;have cI:=im.own;unfold wR at cI;rw[ho]at cI;obtain⟨h3,-,-,-,h5⟩:=cI;rw[h3]at e2;obtain⟨rfl,rfl⟩:r=r2/\k=k2:=by simpa using e2
  simp only[bG,Sbc,Aaf]at h5;exact⟨A,n,c,h5.symm,by rw[hl];exact h1,by rw[hl]⟩
 ·exact h0
theorem Cai (hR:R E.ntmps F σ ρ a w G)(hg:gOn ρ g=true){lo:Option Operand}{y:aP}
  (h:(match lo with|some a=>rdA E g 0 a|none=>RdM.ret (.c (.int .i64 0)):RdM aP).eval σ=some y) {k:IntKind} {l:Int} (hy:y.val ρ=.int k l) :
  (lo=none/\l=0)\/lo.map a.eval=some (.int k l):=by
 split at h
 ·rename_i x
  have:=kL hR hg h;rw[hy]at this;exact .inr (by rw[Sbq,this.int_inv])
 ·simp only[aF,Qb7]at h
  subst h;simp only[aP.val,D.int.injEq]at hy;exact .inl ⟨rfl,hy.2.symm⟩
theorem Ra3 (hR:R E.ntmps F σ ρ a w G)(hd:gG E.ntmps o)(hti:wU P E.ti){nv nb nr:Nat}{mv eR:Bool}{t:TypeId}{x:Operand}{lo hi mx:Option Operand}(ho:o.op=.slice t x lo hi mx){res:cK}
  (h:(sH E mv eR nv nb nr g o).eval σ=some res) (hs:aR cf ρ g nv res.lets):iL P E F σ ρ a w g o Q res.upd:=by
 simp only[sH,ho]at h
 cases mx with
 | some _ =>
  simp only[aC,Qb5]at h;obtain⟨_,_,h⟩:=h;cases h
 |none =>
 simp only[aC,Qb5,tiR,bA]at h;obtain⟨ti,uy,l,h1,vl,h2,h⟩:=h;obtain⟨info,u,f⟩:=bD (hti.ok _ _ uy);split at h
 ·rename_i s
  simp only[aC,Qb5,aO]at h;obtain⟨_,gv,h⟩:=h;split at gv
  ·rename_i hb
   simp only[Qb6]at hb;obtain rfl:=Da9 f hb.1;split at h
   ·rename_i h'
    simp only[aC,Qb5]at h;obtain⟨hA,h3,h⟩:=h;refine dR hR hd h hs fun hg d hp=>?_
    simp only[Rby,Sbc]at hp;obtain⟨s',ki,kj,li,gA,e1,e2,e3,e4,e5,e6,e7⟩:=Tav hp;simp only[Sbz,and_true]at e7;have hx:=gJ hR hg h1;simp only[aD,e1]at hx;have hh:=kL hR hg h3;rw[e3]at hh;refine⟨_,e7▸.str _,Ba9 ho f.und hx.str_inv (Cai hR hg h2 e2) (.inr ⟨by rw[Sbq,hh.int_inv],e6⟩) e4 e5⟩
   ·obtain rfl:g=none:=xO (by simpa using hb.2)
    simp only[aF,Qb7]at h;subst h;simp only[Gab];refine⟨fun hg=>?_,fun hg=>by simp[gOn]at hg⟩;obtain⟨d1,h4,h5⟩:=Cam hs.1 hg;obtain⟨d2,h6,h7⟩:=Cam hs.2.1 hg;simp only[Rby,Sbc,Step.n]at h4 h6 h7;obtain⟨s',ki,kj,li,gA,e1,e2,e3,e4,e5,e6,e7⟩:=Tav h6;rw[e1]at h4;simp only[aS.run,Qb7,Sbz,and_true]at h4;rw[h5,<- h4]at e3;obtain⟨-,rfl⟩:IntKind.i64=kj/\(s'.length:Int)=gA:=by injection e3 with a b;exact⟨a,b⟩
    have hx:=gJ hR hg h1;simp only[aD,e1]at hx;refine Ma3 hR hd hg (Ba9 (kh:=.i64) ho f.und hx.str_inv (Cai hR hg h2 e2) (.inl ⟨rfl,rfl⟩) e4 e5) ?_;rw[h7];simp only[Sbz,and_true]at e7;rw[e7];exact .str _
  ·cases gv
 ·simp only[aC,Qb5,aO]at h
  obtain⟨_,gv,s,h3,ei,h4,h⟩:=h;split at gv
  ·rename_i hel
   cases hel':ti.elem with
   |none=>rw[hel']at hel;cases hel
   |some e =>
   obtain rfl:=sQ f hel';rw[hel',Option.getD_some,bA]at h4;obtain⟨jw,u',f'⟩:=bD (hti.ok _ _ h4);generalize uk:Jas ei lo.isSome s=pf at h;obtain⟨p,fl⟩:=pf;dsimp only at h;split at h
   ·rename_i h'
    simp only[aC,Qb5]at h;obtain⟨hA,h5,h⟩:=h;split at h
    ·rename_i dp pp z _
     refine dZ hR hd h hs fun hg cT=>?_
     obtain⟨d,h6,h7⟩:=gW cT hg;simp only[Rby,Sbc]at h6;obtain⟨rs,ki,kj,li,gA,e1,e2,e3,e4,e5,e6,e7,e8⟩:=Ra1 h6;have hl:=gJ hR hg h1;have hh:=kL hR hg h5;rw[e3]at hh
     have hz:s.x=.c (.rows z []):=by
      unfold zH at h3;simp only[aC,Qb5]at h3;obtain⟨ds,-,h3⟩:=h3;split at h3
      ·simp only[aF,Qb7]at h3;rw[<- h3]
      ·simp only[aC,aW,Rbe]at h3
       split at h3
       ·simp only[aF,Qb7]at h3;rw[<- h3]
       ·cases h3
      ·simp only[aF,Qb7]at h3;rw[<- h3]
     have fx:a.eval x=.slice none 0 0:=by
      unfold zH at h3;simp only[aC,Qb5]at h3;obtain⟨ds,h3,-⟩:=h3;have fS:=hl;simp only[aD]at fS;exact (fS.2 (jX h3).1).2.1 trivial z rfl
     rw[hz]at e1
     obtain⟨-,rfl⟩:z=ei.size/\[]=rs:=by
      simp only[aP.val]at e1
      injection e1 with a b;exact⟨a,b⟩
     have y3:li=0:=by simp at e7;omega
     have sd:gA=0:=by simp at e7;omega
     subst y3 sd;refine⟨a.eval x,hl,?_⟩;rw[xD (kh:=kj) (kl:=ki) (l:=0) (h:=0) ho f.und (f'.sizeOf w) fx (Cai hR hg h2 e2) (.inr ⟨by rw[Sbq,hh.int_inv],by simp⟩) (by omega) (by omega),fx];rfl
    ·refine dZ hR hd h hs fun hg cT=>?_
     obtain⟨d,h6,h7⟩:=gW cT hg;simp only[Rby,Sbc]at h6;obtain⟨rs,ki,kj,li,gA,e1,e2,e3,e4,e5,e6,e7,e8⟩:=Ra1 h6;have hh:=kL hR hg h5;rw[e3]at hh;have im:=eT hR h3 (gJ hR hg h1);have jq:=im.rd;rw[e1]at jq;obtain⟨A,b,n,c,vs,i1,i2,i3,-⟩:=jq.inv;rw[i1]at im;have mn:=Cai hR hg h2 e2;refine⟨_,?_,xD (kh:=kj) ho f.und (f'.sizeOf w) i1 mn (.inr ⟨by rw[Sbq,hh.int_inv],by omega⟩) e5 e6⟩;refine Ta9 uk im e1 (by omega) (by omega) (fun hf=>?_) e4 ?_
     ·rcases mn with ⟨-,k7⟩|k7
      ·rw[k7];rfl
      ·cases lo with
       |none=>simp at k7
       |some _=>simp at hf
     ·rw[h7]
      simpa using e8
   ·refine dZ hR hd h hs fun hg cT=>?_
    obtain⟨d1,um,h5⟩:=Cam cT.1 hg;obtain⟨d2,h6,h7⟩:=Cam cT.2.1 hg;simp only[Rby,Sbc,Step.n]at um h6 h7;obtain⟨rs,ki,kj,li,gA,e1,e2,e3,e4,e5,e6,e7,e8⟩:=Ra1 h6;rw[e1]at um;simp only[aS.run,Qb7,Sbz,and_true]at um;rw[h5,<- um]at e3;obtain⟨-,rfl⟩:IntKind.i64=kj/\(rs.length:Int)=gA:=by injection e3 with a b;exact⟨a,b⟩
    have im:=eT hR h3 (gJ hR hg h1);have jq:=im.rd;rw[e1]at jq;obtain⟨A,b,n,c,vs,i1,i2,i3,-⟩:=jq.inv;rw[i1]at im;have mn:=Cai hR hg h2 e2;refine⟨_,?_,xD (kh:=.i64) ho f.und (f'.sizeOf w) i1 mn (.inl ⟨rfl,by rw[i2]⟩) e5 e6⟩;have mf:mO ρ vl=li.toNat:=by unfold mO;rw[e2]
    have hln:((rs.length:Nat):Int).toNat=n:=by rw[Int.toNat_natCast];exact i2
    rw[hln];refine Zaa (lx:=vl) uk im e1 (l:=li.toNat) (by omega) (fun hf=>?_) e4 ?_ mf
    ·rcases mn with ⟨-,k7⟩|k7
     ·rw[k7];rfl
     ·cases lo with
      |none=>simp at k7
      |some _=>simp at hf
    ·rw[h7,List.take_of_length_le (by omega:rs.length<=n)]
     simpa using e8
  ·cases gv
end
end Go.Proofs.YtgpamlpecmldfaaGreat.Rf
