import Derived.Test.YtgpamlpecmldfaaGreatRf1
import Derived.WalkKit
import Derived.Laws.StructEq
import Derived.Laws.BytesArg
set_option linter.all false
open Array renaming ext' → Vbo
open Bool renaming and_eq_true → Rbu, false_eq_true → Sbb, not_eq_true' → Sbl, or_eq_true → Tbk
open List renaming getElem?_eq_some_iff → Rbw, mem_singleton → Rby, getElem?_eq_getElem → Rbz, getElem?_cons_zero → Rb2, mem_cons → Rb4, mem_cons_of_mem → Rb7, mem_of_getElem? → Sba, mem_cons_self → Sbe, map_cons → Sbk, length_take → Sbn, all_eq_true → Sbp, length_map → Sbr, append_nil → Sbu, map_nil → Sbw, getElem?_map → Sbx, getElem?_drop → Sby, getElem?_take → Sb0, getElem?_cons_succ → Sb4, length_drop → Sb8, length_singleton → Tbl, eq_nil_of_length_eq_zero → Tbm, mem_of_mem_drop → Tbn, getElem?_eq_none → Tb4, cons_append → Tb6, map_append → Ubg, mem_of_mem_take → Ubh
open List.cons renaming injEq → Tbj, inj → Vbp
open Nat renaming add_assoc → Sbf, lt_or_ge → Sbh, zero_add → Sbo, beq_eq → Sbq, ble_eq → Tbc
open Option renaming bind_eq_some_iff → Rbt, bind_some → Rb1, map_eq_some_iff → Sbc, map_some → Sb9
open Option.some renaming injEq → Rbv, inj → Sbs
open Prod.mk renaming injEq → Sbj
namespace Go.Proofs.YtgpamlpecmldfaaGreat.Rf
theorem RdM.run_eval {α:Type}{look:Nat->Option aP}{m:RdM α}{x:α}{log:List Nat}(h:m.run look=some (x,log)):m.eval look=some x:=by
 induction m generalizing log with
 | ret a =>
  simp only[RdM.run,Rbv,Sbj]at h;rw[h.1];rfl
 |no=>cases h
 | rd k f ih =>
  simp only[RdM.run,Sbc]at h;obtain⟨⟨y,l⟩,h1,h2⟩:=h;simp only[Sbj]at h2;obtain⟨rfl,_⟩:=h2;exact ih _ h1
theorem RdM.run_same {α:Type}{look vm:Nat->Option aP}{m:RdM α}{x:α}{log:List Nat}(h:m.run look=some (x,log))(hs:∀ k∈log,vm k=look k):m.run vm=some (x,log):=by
 induction m generalizing log with
 |ret a=>exact h
 |no=>cases h
 | rd k f ih =>
  simp only[RdM.run,Sbc]at h ⊢;obtain⟨⟨y,l⟩,h1,h2⟩:=h;simp only[Sbj]at h2;obtain⟨rfl,rfl⟩:=h2;refine⟨(y,l),?_,rfl⟩;rw[hs k Sbe];exact ih _ h1 fun j hj=>hs j (Rb7 _ hj)
section
variable {α γ:Type} {look:Nat->Option aP}
theorem aC (a:α):(RdM.ret a).eval look=some a:=rfl
theorem bN:(RdM.no:RdM α).eval look=none:=rfl
theorem Xae (k:Nat)(f:Option aP->RdM α):(RdM.rd k f).eval look=(f (look k)).eval look:=rfl
theorem aA (m:RdM α)(f:α->RdM γ):(m >>= f).eval look=(m.eval look).bind fun x=>(f x).eval look:=by
 show (RdM.bind m f).eval look=_
 induction m with
 |ret a=>rfl
 |no=>rfl
 |rd k g ih=>exact ih _
theorem aS (k:Nat):(rdK k).eval look=some (look k):=rfl
theorem aV (x:Option α):(mG x).eval look=x:=by cases x<;>rfl
theorem aI (b:Bool):(bL b).eval look=if b=true then some () else none:=by cases b<;>rfl
theorem gG (c:Bool)(x y:RdM α):(bif c then x else y).eval look=if c=true then x.eval look else y.eval look:=by cases c<;>rfl
end
def Sab (cf:Nat->List D->Option (List D))(ρ:List D)(g:Option (aJ×Bool))(nv:Nat):Step->Prop
 | .prim p xs n => (gOn ρ g = true -> ∃ ds, p.run (xs.map (·.val ρ)) = some ds /\ ds.length = n /\ ∀ j d, ds[j]? = some d -> (aJ.v (nv + j)).val ρ = d) /\
   (gOn ρ g=false->∀ j,j<n->(aJ.v (nv+j)).val ρ=.undef)
 | .call f xs n olds => (gOn ρ g = true -> ∃ ds, cf f (xs.map (·.val ρ)) = some ds /\ ds.length = n /\ ∀ j d, ds[j]? = some d -> (aJ.v (nv + j)).val ρ = d) /\
   (gOn ρ g=false->∀ j d,(List.replicate (n-olds.length) D.undef++olds.map (·.val ρ))[j]?=some d->(aJ.v (nv+j)).val ρ=d)
def aK (cf:Nat->List D->Option (List D))(ρ:List D)(g:Option (aJ×Bool)):Nat->List Step->Prop
 |_,[]=>True
 |nv,s::r=>Sab cf ρ g nv s/\aK cf ρ g (nv+s.n) r
structure tQ (P:Program) (ti:Nat->Option TI):Prop where
 ok:∀ t i,ti t=some i->yQ P t=some i
structure bY (P:Program) (t:TypeId) (i:TI) (info:TypeInfo) (u:TypeDesc):Prop where
 info_:P.info? t=some info
 und:P.underlying t=some u
 cells:(flat P 12 t).map (·.map (mQ P))=some i.cells
 len:i.cells.length=i.size
 zero:Qaj i.agg info.zero i.cells=true
 eq:i=Mbj P t info u i.cells
theorem aX {P:Program}{t:TypeId}{i:TI}(h:yQ P t=some i):∃ info u,bY P t i info u:=by
 unfold yQ at h
 cases h1:P.info? t with
 |none=>rw[h1]at h;cases h
 | some info =>
  cases h2:P.underlying t with
  |none=>rw[h1,h2]at h;cases h
  | some u =>
   cases h3:(flat P 12 t).map (·.map (mQ P)) with
   |none=>rw[h1,h2,h3]at h;cases h
   | some cs =>
    rw[h1,h2,h3]at h;dsimp only at h
    cases hb:(Nat.beq cs.length info.size&&Qaj (Ham u) info.zero cs) with
    |false=>rw[hb]at h;cases h
    | true =>
     rw[hb]at h;obtain rfl:=Sbs h;simp only[Rbu,Sbq]at hb;exact⟨info,u,h1,h2,h3,hb.1,hb.2,rfl⟩
section
variable {P:Program} {t:TypeId} {i:TI} {info:TypeInfo} {u:TypeDesc}
theorem bY.agg (h:bY P t i info u):i.agg=Ham u:=by rw[h.eq];rfl
theorem bY.size (h:bY P t i info u):i.size=info.size:=by rw[h.eq];rfl
theorem bY.elem (h:bY P t i info u):i.elem=Xam u:=by rw[h.eq];rfl
theorem bY.flds (h:bY P t i info u):i.flds=Xaa u:=by rw[h.eq];rfl
theorem bY.bytes (h:bY P t i info u):i.bytes=info.bytes:=by rw[h.eq];rfl
theorem bY.ik (h:bY P t i info u):i.ik=Lbd u:=by rw[h.eq];rfl
theorem La9 (h:P.underlying t=some u)(w:World):(Go.isAgg t).run P w=.ok (Ham u) w:=by
 simp only[Go.isAgg,underlying,program,bind,pure,Sem.bind,Sem.run,h];cases u<;>rfl
theorem run_sizeOf (h:P.info? t=some info)(w:World):(Go.sizeOf t).run P w=.ok info.size w:=by
 simp only[Go.sizeOf,typeInfo,program,bind,pure,Sem.bind,Sem.run,h]
theorem run_underlying (h:P.underlying t=some u)(w:World):(Go.underlying t).run P w=.ok u w:=by
 simp only[underlying,program,bind,pure,Sem.bind,Sem.run,h]
theorem bY.isAgg (h:bY P t i info u)(w:World):(Go.isAgg t).run P w=.ok i.agg w:=by rw[La9 h.und,h.agg]
theorem bY.sizeOf (h:bY P t i info u)(w:World):(Go.sizeOf t).run P w=.ok i.size w:=by rw[run_sizeOf h.info_,h.size]
end
theorem D.beq0_eq {a b:D}(h:a.beq0 b=true):a=b:=by
 unfold D.beq0 at h;split at h<;>first|cases h|skip
 ·simp only[Rbu,Lbh,decide_eq_true_eq]at h
  rw[h.1,h.2]
 ·simp only[beq_iff_eq]at h;rw[h]
 ·simp only[beq_iff_eq]at h;rw[h]
 ·simp only[Sbq]at h;rw[h]
 ·rfl
 ·rfl
theorem aJ.beq0_eq {a b:aJ}(h:a.beq0 b=true):a=b:=by
 unfold aJ.beq0 at h;split at h
 ·simp only[Sbq]at h;rw[h]
 ·rw[D.beq0_eq h]
 ·cases h
theorem Paw {g h:Option (aJ×Bool)}(e:Ebq g h=true):g=h:=by
 unfold Ebq at e;split at e
 ·rfl
 ·simp only[Rbu,beq_iff_eq]at e
  rw[aJ.beq0_eq e.1,e.2]
 ·cases e
section
variable {P:Program} {E:Env} {F:bE} {σ:Nat->Option aP} {ρ:List D} {a:Act} {w:World} {G:Gh} {g:Option (aJ×Bool)}
theorem Dbd (hg:gOn ρ g=true){v:SV}{u:Value}(h:bV σ ρ G w v u):bV σ ρ G w (unG g v) u:=by
 unfold unG;split
 ·rename_i h' x
  cases e:Ebq g (some h') with
  |false=>exact h
  | true =>
   simp only[bV,aB,cond_true]at h ⊢;exact h.2 (Paw e▸hg)
 ·exact h
theorem Pa4 {ti:Nat->Option TI}{t:TypeId}{v:Value}{sv:SV}(h:Pa5 ti t v=some sv):bV σ ρ G w sv v:=by
 unfold Pa5 at h;split at h
 ·obtain rfl:=Sbs h;exact .int _ _
 ·obtain rfl:=Sbs h;exact .bool _
 ·obtain rfl:=Sbs h
  rename_i s;have:=Sc.str s.data.toList;simpa[bV,aB,aJ.val] using this
 ·split at h
  ·obtain rfl:=Sbs h
   simp only[bV,aB];refine⟨⟨rfl,by simp⟩,fun _=>⟨?_,?_,trivial⟩⟩
   ·exact .rows none ⟨0,0,none⟩ 0 0 _ [] (fun _ _=>undef) rfl (Nat.le_refl _) (.inl rfl) (by simp) (by simp) (by simp)
   ·exact fun _ z _=>trivial
  ·cases h
 ·obtain rfl:=Sbs h;rfl
 ·cases h
theorem fJ (hR:R E.ntmps F σ ρ a w G)(hg:gOn ρ g=true){t:TypeId}{x:Operand}{sv:SV}(h:(Mah E g t x).eval σ=some sv):bV σ ρ G w sv (a.eval x):=by
 cases x with
 | tmp k =>
  simp only[Mah,Xae]at h;split at h
  ·rename_i g' v hk
   rw[gG]at h;split at h
   ·rename_i hb
    simp only[Rbu]at hb;simp only[aC,Rbv]at h;subst h;refine Dbd hg ?_
    have hg':gOn ρ g'=true:=by
     cases g' with
     |none=>rfl
     |some z=>exact Paw hb.1▸hg
    have:=hR.slot hk hg';unfold yP at this;rw[if_pos (by simpa using hb.2)]at this;exact this
   ·cases h
  ·cases h
 | const v =>
  simp only[Mah,aV]at h;exact Pa4 h
 |global _=>cases h
 | func f =>
  simp only[Mah,aC,Rbv]at h;subst h;simp only[bV,aB];exact⟨[],rfl,by simp[aG]⟩
theorem fA (hR:R E.ntmps F σ ρ a w G)(hg:gOn ρ g=true){t:TypeId}{x:Operand}{l:aO}(h:(rdL E g t x).eval σ=some l):aB σ ρ G w l (a.eval x):=by
 simp only[rdL,aA,Rbt]at h;obtain⟨sv,h1,h2⟩:=h;have:=fJ hR hg h1;unfold one at h2;split at h2
 ·simp only[aC,Rbv]at h2
  subst h2;exact this
 ·cases h2
theorem jD (hg:gOn ρ g=true){l:aO}{x:aJ}{v:Value}(h:sV g l=some x)(hl:aB σ ρ G w l v):Sc v (x.val ρ):=by
 unfold sV at h;split at h
 ·obtain rfl:=Sbs h
  simpa[aB] using hl
 ·rename_i h' y
  cases e:Ebq g (some h') with
  |false=>rw[e]at h;cases h
  | true =>
   rw[e]at h;obtain rfl:=Sbs h;simp only[aB]at hl;exact hl.2 (Paw e▸hg)
 ·cases h
theorem iP (hR:R E.ntmps F σ ρ a w G)(hg:gOn ρ g=true){t:TypeId}{x:Operand}{y:aJ}(h:(rdA E g t x).eval σ=some y):Sc (a.eval x) (y.val ρ):=by
 simp only[rdA,aA,Rbt,aV]at h;obtain⟨l,h1,h2⟩:=h;exact jD hg h2 (fA hR hg h1)
end
def Nx (n:Nat)(F:bE)(σ:Nat->Option aP)(ρ:List D)(u:List (Nat×aP))(a:Act)(w:World):Prop:=∃ G,R n F (upds σ u) ρ a w G
def eU (n:Nat)(o:Oper):Prop:=∀ d,o.dst=some d->d<n
section
variable {P:Program} {E:Env} {F:bE} {σ:Nat->Option aP} {ρ:List D} {a:Act} {w w':World} {G:Gh} {g:Option (aJ×Bool)} {o:Oper} {cf:Nat->List D->Option (List D)} {Q:Exit->Act->World->Prop} {next:Act->World->Prop}
theorem mD {v:Value}(h:(execOp a.eval o).run P w=.ok (.value v) w')(hn:next (a.put o.dst v) w'):o.wp P a w next Q:=by
 unfold Oper.wp;rw[h];exact hn
theorem Qak (h:(execOp a.eval o).run P w=.ok .skip w')(hn:next (a.put o.dst undef) w'):o.wp P a w next Q:=by
 unfold Oper.wp;rw[h];exact hn
theorem Jau (hR:R E.ntmps F σ ρ a w G)(hd:eU E.ntmps o)(hg:gOn ρ g=true){v:Value}{nv:Nat}(h:(execOp a.eval o).run P w=.ok (.value v) w)
  (hv:Sc v ((aJ.v nv).val ρ)):o.wp P a w (Nx E.ntmps F σ ρ (dM o none (mkS g (.v nv)))) Q:=by
 refine mD h ⟨G,hR.pure o hd none _ v fun _=>?_⟩
 cases g with
 |none=>exact hv
 | some z =>
  simp only[mkS,bV,aB];exact⟨.inl hv,fun _=>hv⟩
theorem Db6 (hR:R E.ntmps F σ ρ a w G)(hd:eU E.ntmps o)(hg:gOn ρ g=false){nv:Nat}(hv:(aJ.v nv).val ρ=.undef) :
  Nx E.ntmps F σ ρ (dM o none (mkS g (.v nv))) (a.put o.dst undef) w:=by
 refine⟨G,hR.pure o hd none _ undef fun _=>?_⟩
 cases g with
 |none=>cases hg
 | some z =>
  simp only[mkS,bV,aB];exact⟨.inr ⟨trivial,hv⟩,fun h=>by rw[h]at hg;cases hg⟩
theorem Hbn (hR:R E.ntmps F σ ρ a w G)(hd:eU E.ntmps o)(hg:gOn ρ g=false){sv:SV} :
  Nx E.ntmps F σ ρ (dM o g sv) (a.put o.dst undef) w:=⟨G,hR.pure o hd g _ undef fun h=>by rw[h]at hg;cases hg⟩
def fZ (P:Program)(E:Env)(F:bE)(σ:Nat->Option aP)(ρ:List D)(a:Act)(w:World)(g:Option (aJ×Bool))(o:Oper)(Q:Exit->Act->World->Prop)(u:List (Nat×aP)):Prop :=
 (gOn ρ g=true->o.wp P a w (Nx E.ntmps F σ ρ u) Q)/\(gOn ρ g=false->Nx E.ntmps F σ ρ u (a.put o.dst undef) w)
theorem step1 {p:aN}{xs:List aJ}{nv n:Nat}(h:aK cf ρ g nv [.prim p xs n])(hg:gOn ρ g=true) :
  ∃ ds,p.run (xs.map (·.val ρ))=some ds/\ds.length=n/\∀ j d,ds[j]?=some d->(aJ.v (nv+j)).val ρ=d:=h.1.1 hg
theorem fI {p:aN}{xs:List aJ}{nv:Nat}(h:aK cf ρ g nv [.prim p xs 1])(hg:gOn ρ g=true) :
  ∃ d,p.run (xs.map (·.val ρ))=some [d]/\(aJ.v nv).val ρ=d:=by
 obtain⟨ds,h1,h2,h3⟩:=step1 h hg
 match ds,h2 with
 |[d],_=>exact⟨d,h1,h3 0 d rfl⟩
theorem Ea0 {p:aN}{xs:List aJ}{nv:Nat}(h:aK cf ρ g nv [.prim p xs 1])(hg:gOn ρ g=false):(aJ.v nv).val ρ=.undef:=h.1.2 hg 0 (by omega)
theorem Daj (o:Oper)(g:Option (aJ×Bool))(v:SV):(match o.dst with|some d=>[(kT d,aP.slot g v)]|none=>[])=dM o g v:=rfl
theorem dB (hR:R E.ntmps F σ ρ a w G)(hd:eU E.ntmps o){nv:Nat}{p:aN}{xs:List aJ}{res:bM}
  (h:(rM o g nv p xs).eval σ=some res) (hs:aK cf ρ g nv res.lets)
  (hv:gOn ρ g=true->∀ d,p.run (xs.map (·.val ρ))=some [d]->∃ v,Sc v d/\(execOp a.eval o).run P w=.ok (.value v) w):fZ P E F σ ρ a w g o Q res.upd:=by
 simp only[rM,aC,Rbv]at h;subst h;simp only[Daj];refine⟨fun hg=>?_,fun hg=>Db6 hR hd hg (Ea0 hs hg)⟩;obtain⟨d,h1,h2⟩:=fI hs hg;obtain⟨v,h3,h4⟩:=hv hg d h1;exact Jau hR hd hg h4 (h2▸h3)
theorem dH (hR:R E.ntmps F σ ρ a w G)(hd:eU E.ntmps o){lets:List Step}{sv:SV}{res:bM}{nv:Nat}
  (h:(rO o g lets sv []).eval σ=some res) (hs:aK cf ρ g nv res.lets)
  (hv:gOn ρ g=true->aK cf ρ g nv lets->∃ v,bV σ ρ G w sv v/\(execOp a.eval o).run P w=.ok (.value v) w):fZ P E F σ ρ a w g o Q res.upd:=by
 simp only[rO,aC,Rbv]at h;subst h;simp only[Daj,Sbu];refine⟨fun hg=>?_,fun hg=>Hbn hR hd hg⟩;obtain⟨v,h1,h2⟩:=hv hg hs;exact mD h2 ⟨G,hR.pure o hd g _ v fun _=>h1⟩
theorem vY (hR:R E.ntmps F σ ρ a w G)(hd:eU E.ntmps o){sv:SV}{res:bM}{nv:Nat}
  (h:(Vav o g nv sv).eval σ=some res) (hs:aK cf ρ g nv res.lets)
  (hv:gOn ρ g=true->∃ v,bV σ ρ G w sv v/\(execOp a.eval o).run P w=.ok (.value v) w):fZ P E F σ ρ a w g o Q res.upd:=by
 unfold Vav at h;split at h
 ·rename_i z l
  split at h
  ·rename_i x hx
   refine dB hR hd h hs fun hg d hp=>?_
   obtain⟨v,h1,h2⟩:=hv hg;simp only[aN.run,Sbk,Sbw,Rbv,Tbj,and_true]at hp;exact⟨v,hp▸jD hg hx h1,h2⟩
  ·exact dH hR hd h hs fun hg _=>hv hg
 ·exact dH hR hd h hs fun hg _=>hv hg
theorem fF {s:Sem Value}{v:Value}(h:s.run P w=.ok v w'):(do pure (Next.value (<- s)):Sem Next).run P w=.ok (.value v) w':=by
 simp only[Sem.run_bind,h,Result.andThen_ok,Sem.run_pure]
theorem Ha8 (hR:R E.ntmps F σ ρ a w G)(hd:eU E.ntmps o){nv:Nat}{x:Operand}(ho:o.op=.move x\/o.op=.assign x){res:bM}
  (h:(do Vav o g nv (<- Mah E g o.type x):RdM bM).eval σ=some res) (hs:aK cf ρ g nv res.lets):fZ P E F σ ρ a w g o Q res.upd:=by
 simp only[aA,Rbt]at h;obtain⟨sv,h1,h2⟩:=h;refine vY hR hd h2 hs fun hg=>⟨a.eval x,fJ hR hg h1,?_⟩
 rcases ho with ho|ho<;>(unfold execOp;rw[ho];rfl)
theorem Sc.int_inv {v:Value}{k:IntKind}{n:Int}(h:Sc v (.int k n)):v=.int k n:=by cases h;rfl
theorem Sc.bool_inv {v:Value}{b:Bool}(h:Sc v (.bool b)):v=.bool b:=by cases h;rfl
theorem Sc.str_inv {v:Value}{l:List UInt8}(h:Sc v (.str l)):v=.string ⟨l.toArray⟩:=by cases h;rfl
theorem Iai (hR:R E.ntmps F σ ρ a w G)(hg:gOn ρ g=true){z:aJ×Bool}{t:TypeId}{x:Operand}{y:aJ}(h:(Iaj E g z t x).eval σ=some y)(hz:gOn ρ (some z)=true):Sc (a.eval x) (y.val ρ):=by
 simp only[Iaj,aA,Rbt]at h;obtain⟨l,h1,h2⟩:=h;have hl:=fA hR hg h1;split at h2
 ·rename_i b hb
  simp only[aC,Rbv]at h2;subst h2;exact jD hg hb hl
 ·simp only[aV]at h2
  exact jD hz h2 hl
theorem Sax (hR:R E.ntmps F σ ρ a w G)(hd:eU E.ntmps o){nv:Nat}{c x y:Operand}(ho:o.op=.pick c x y){res:bM}
  (h:(do
   let c <- rdA E g 0 c
   let a <- Iaj E g (c,true) o.type x
   let b <- Iaj E g (c,false) o.type y
   rM o g nv .pick [c,a,b]:RdM bM).eval σ=some res) (hs:aK cf ρ g nv res.lets):fZ P E F σ ρ a w g o Q res.upd:=by
 simp only[aA,Rbt]at h;obtain⟨c',h1,x',h2,y',h3,h4⟩:=h;refine dB hR hd h4 hs fun hg d hp=>?_
 have hc:=iP hR hg h1;simp only[Sbk,Sbw]at hp;generalize hcv:c'.val ρ=cv at hp hc
 cases cv with
 | bool b =>
  simp only[aN.run,Rbv,Tbj,and_true]at hp;have e:a.eval c=.bool b:=hc.bool_inv;refine⟨if b then a.eval x else a.eval y,?_,?_⟩
  ·cases b with
   | true =>
    rw[if_pos rfl]at hp ⊢;exact hp▸Iai hR hg h2 (by simp[gOn,hcv])
   | false =>
    simp only[Sbb,if_false]at hp ⊢;exact hp▸Iai hR hg h3 (by simp[gOn,hcv])
  ·unfold execOp
   simp only[ho,e];simp only[asBool,Sem.run_bind,Sem.run_pure,Result.andThen_ok]
 |_=>simp[aN.run]at hp
theorem toList_mk (l:List UInt8):(⟨l.toArray⟩:ByteArray).toList=l:=by
 rw[ByteArray.toList_eq]
theorem size_mk (l:List UInt8):(⟨l.toArray⟩:ByteArray).size=l.length:=rfl
theorem Yah (x y:List UInt8):(⟨x.toArray⟩:ByteArray)++(⟨y.toArray⟩:ByteArray)=⟨(x++y).toArray⟩:=by
 apply ByteArray.ext;rw[ByteArray.data_append];simp
theorem Sa3 {op:BinOp}{t:TypeId}{k k':IntKind}{x y:Int}{d:D}(h:Oac op (.int k x) (.int k' y)=some d) :
    ∃ v,Sc v d/\(binOp op t (.int k x) (.int k' y)).run P w=.ok v w:=by
  unfold Oac at h;dsimp only at h
  cases op<;>dsimp only at h<;>first
    | (simp only [Ua8] at h
       split at h
       · cases h
       · rename_i hy
         obtain rfl:=Sbs h;exact⟨_,.int _ _,by simp[binOp,Op.shift,hy]⟩)
    | (split at h
       · rename_i hk
         subst hk;simp only[Aal]at h
         first
         | (obtain rfl := Sbs h
            first
            |exact⟨_,.int _ _,by simp[binOp,Op.intArith,Op.intBits]⟩
            |exact⟨_,.bool _,by simp[binOp,Op.intCmp]⟩)
         | (split at h
            · cases h
            · rename_i hy
              obtain rfl:=Sbs h;exact⟨_,.int _ _,by simp[binOp,Op.intDiv,hy]⟩)
         |cases h
       · cases h)
theorem Sa2 {op:BinOp}{t:TypeId}{x y:List UInt8}{d:D}(h:Oac op (.str x) (.str y)=some d) :
    ∃ v,Sc v d/\(binOp op t (.string ⟨x.toArray⟩) (.string ⟨y.toArray⟩)).run P w=.ok v w:=by
  simp only[Oac,Fb0]at h;have a5t:IntKind.i64.max=9223372036854775807:=by decide
  cases op<;>dsimp only at h<;>first
    | (obtain rfl := Sbs h
       exact⟨_,.bool _,by simp[binOp,Op.stringOp,toList_mk]⟩)
    | (split at h
       · rename_i hl
         obtain rfl:=Sbs h;refine⟨_,.str _,?_⟩;simp only[binOp,Op.stringOp,size_mk,Yah,a5t];rw[if_neg (by omega)];rfl
       · cases h)
    |cases h
theorem Dbx {op:BinOp}{t:TypeId}{vx vy:Value}{dx dy d:D}(hx:Sc vx dx)(hy:Sc vy dy)(h:Oac op dx dy=some d) :
  ∃ v,Sc v d/\(binOp op t vx vy).run P w=.ok v w:=by
 cases hx<;>cases hy<;>first|exact Sa3 h|exact Sa2 h|(simp[Oac]at h)
theorem Ta1 {op:BinOp}{t:TypeId}{x y:Operand}{vx vy:Value}{dx dy:D}(hx:Sc vx dx)(hy:Sc vy dy):(eqGuard op t x y vx vy).run P w=.ok () w:=by
 cases hx<;>cases hy<;>(unfold eqGuard;cases op<;>simp)
theorem La2 (hR:R E.ntmps F σ ρ a w G)(hd:eU E.ntmps o){nv:Nat}{op:BinOp}{t ty:TypeId}{x y:Operand}(ho:o.op=.binOp op t x y ty){res:bM}
  {x' y':aJ} (h1:gOn ρ g=true->Sc (a.eval x) (x'.val ρ)) (h2:gOn ρ g=true->Sc (a.eval y) (y'.val ρ))
  (h:(rM o g nv (.bin op) [x',y']).eval σ=some res) (hs:aK cf ρ g nv res.lets):fZ P E F σ ρ a w g o Q res.upd:=by
 refine dB hR hd h hs fun hg d hp=>?_
 simp only[Sbk,Sbw,aN.run,Sbc,Tbj,and_true]at hp;obtain⟨d',hp,rfl⟩:=hp;obtain⟨v,h3,h4⟩:=Dbx (P:=P) (w:=w) (t:=t) (h1 hg) (h2 hg) hp;refine⟨v,h3,?_⟩;unfold execOp;simp only[ho];refine fF ?_;rw[Sem.run_bind,Ta1 (h1 hg) (h2 hg)];exact h4
theorem Za9 (hR:R E.ntmps F σ ρ a w G)(hd:eU E.ntmps o){nv:Nat}{op:UnOp}{t:TypeId}{x:Operand}(ho:o.op=.unOp op t x){res:bM}
  (h:(do
   let a <- rdA E g 0 x
   match op with
   |.not=>rM o g nv .not [a]
   |.neg=>rM o g nv .neg [a]
   |.xor=>rM o g nv .inv [a]
   |_=>.no:RdM bM).eval σ=some res) (hs:aK cf ρ g nv res.lets):fZ P E F σ ρ a w g o Q res.upd:=by
 simp only[aA,Rbt]at h;obtain⟨x',h1,h2⟩:=h;split at h2
 ·refine dB hR hd h2 hs fun hg d hp=>?_
  have hx:=iP hR hg h1;simp only[Sbk,Sbw]at hp;generalize x'.val ρ=xv at hp hx;cases xv<;>simp only[aN.run]at hp<;>first|cases hp|skip
  rename_i b;exact⟨_,.bool _,by unfold execOp;simp only[ho,hx.bool_inv];rfl⟩
 ·refine dB hR hd h2 hs fun hg d hp=>?_
  have hx:=iP hR hg h1;simp only[Sbk,Sbw]at hp;generalize x'.val ρ=xv at hp hx;cases xv<;>simp only[aN.run]at hp<;>first|cases hp|skip
  exact⟨_,.int _ _,by unfold execOp;simp only[ho,hx.int_inv];rfl⟩
 ·refine dB hR hd h2 hs fun hg d hp=>?_
  have hx:=iP hR hg h1;simp only[Sbk,Sbw]at hp;generalize x'.val ρ=xv at hp hx;cases xv<;>simp only[aN.run,Aal,Sb9,Rbv,Tbj,and_true]at hp<;>first|cases hp|skip
  exact⟨_,.int _ _,by unfold execOp;simp only[ho,hx.int_inv];rfl⟩
 ·cases h2
theorem Saz (hR:R E.ntmps F σ ρ a w G)(hd:eU E.ntmps o)(hti:tQ P E.ti){nv:Nat}{src dst:TypeId}{x:Operand}(ho:o.op=.convert src dst x){res:bM}{s d:TI}{k:IntKind}
  (mn:E.ti src=some s) (jo:s.ik.isSome=true) (iS:E.ti dst=some d) (hk:d.ik=some k) {x':aJ} (h1:(rdA E g src x).eval σ=some x')
  (h:(rM o g nv (.conv k) [x']).eval σ=some res) (hs:aK cf ρ g nv res.lets):fZ P E F σ ρ a w g o Q res.upd:=by
 refine dB hR hd h hs fun hg e hp=>?_
 have hx:=iP hR hg h1;simp only[Sbk,Sbw]at hp;generalize x'.val ρ=xv at hp hx;cases xv<;>simp only[aN.run]at hp<;>first|cases hp|skip
 rename_i k0 n;obtain⟨i1,u1,f1⟩:=aX (hti.ok _ _ mn);obtain⟨i2,u2,f2⟩:=aX (hti.ok _ _ iS)
 have e2:u2=.int k:=by
  have:=f2.ik.symm.trans hk;unfold Lbd at this;split at this
  ·rw[Sbs this]
  ·cases this
 subst e2;refine⟨_,.int _ _,?_⟩;unfold execOp;simp only[ho,hx.int_inv];refine fF ?_;simp only[convert,Sem.run_bind,run_underlying f1.und,run_underlying f2.und,Result.andThen_ok];rfl
end
section
variable {P:Program} {E:Env} {F:bE} {σ:Nat->Option aP} {ρ:List D} {a:Act} {w w':World} {G:Gh} {g:Option (aJ×Bool)} {o:Oper} {cf:Nat->List D->Option (List D)} {Q:Exit->Act->World->Prop} {next:Act->World->Prop}
def Kad (σ:Nat->Option aP)(r k:Nat):Prop:=∃ m,wT σ r k m
theorem iH:∀ {deps ds:List (Nat×Nat)},(uF deps).eval σ=some ds ->
  (∀ z∈deps,kQ σ z.1 z.2)/\(∀ z∈ds,z∈deps/\Kad σ z.1 z.2)/\∀ z∈deps,z∈ds\/∃ x m,σ (kR z.1)=some (.root x m z.2 .frozen)
 | [], ds, h => by
  simp only[uF,aC,Rbv]at h;subst h;simp
 | (r, k) :: rest, ds, h => by
  simp only[uF,aA,aS,Rb1]at h;split at h
  ·rename_i x m b9 st hk
   simp only[aA,Rbt]at h;obtain⟨iy,h1,h2⟩:=h;obtain⟨h3,h4,h5⟩:=iH h1;split at h2
   ·rw[gG]at h2
    split at h2
    ·rename_i e
     simp only[Sbq]at e;simp only[aC,Rbv]at h2;subst h2 e;refine⟨fun z hz=>?_,fun z hz=>⟨Rb7 _ (h4 z hz).1,(h4 z hz).2⟩,fun z hz=>?_⟩
     ·rcases Rb4.1 hz with rfl|hz
      ·exact⟨x,m,.frozen,hk,.inr rfl⟩
      ·exact h3 z hz
     ·rcases Rb4.1 hz with rfl|hz
      ·exact .inr ⟨x,m,hk⟩
      ·exact h5 z hz
    ·cases h2
   ·rw[gG]at h2
    split at h2
    ·rename_i e
     simp only[Sbq]at e;simp only[aC,Rbv]at h2;subst h2 e;refine⟨fun z hz=>?_,fun z hz=>?_,fun z hz=>?_⟩
     ·rcases Rb4.1 hz with rfl|hz
      ·exact⟨x,m,.live,hk,.inl rfl⟩
      ·exact h3 z hz
     ·rcases Rb4.1 hz with rfl|hz
      ·exact⟨Sbe,m,x,hk⟩
      ·exact⟨Rb7 _ (h4 z hz).1,(h4 z hz).2⟩
     ·rcases Rb4.1 hz with rfl|hz
      ·exact .inl Sbe
      ·exact (h5 z hz).imp (Rb7 _) id
    ·cases h2
   ·cases h2
  ·cases h
theorem Rd.drop (hR:R E.ntmps F σ ρ a w G){deps ds:List (Nat×Nat)}(h:∀ z∈deps,z∈ds\/∃ x m,σ (kR z.1)=some (.root x m z.2 .frozen)){v:Value}{d:D}
  (hv:Rd (allow G deps) w v d):Rd (allow G ds) w v d:=by
 refine hv.mono fun b hb=>⟨?_,rfl⟩
 rcases hb with hb|⟨r,k,p,hm,hb⟩
 ·exact .inl hb
 ·rcases h (r,k) hm with h1|⟨x,m,h1⟩
  ·exact .inr ⟨r,k,p,h1,hb⟩
  ·exact absurd hb ((hR.root h1).2 b p)
def tJ (σ:Nat->Option aP)(ρ:List D)(G:Gh)(w:World)(s:SlR)(v:Value):Prop :=
 match s.own with
 |none=>True
 | some (r, k, m, p) => s.deps = [(r, k)] /\ wT σ r k m /\ match p with
  |.no=>True
  |.view=>Rp G.own w r [] m v (s.x.val ρ)
  |.suf sz lo=>Cb8 (G.hdr r) v sz (jY ρ lo)
  |.path q=>q.length<=m/\Rp G.own w r (bA ρ q) (m-q.length) v (s.x.val ρ)/\wW G.own w r [] (G.hdr r) (bA ρ q) v
structure Uaf (σ:Nat->Option aP) (ρ:List D) (G:Gh) (w:World) (s:SlR) (v:Value):Prop where
 rd:Rd (allow G s.deps) w v (s.x.val ρ)
 live:∀ z∈s.deps,Kad σ z.1 z.2
 nie:s.nie=true->∀ z,s.x.val ρ=.rows z []->v=.slice none 0 0
 own:tJ σ ρ G w s v
theorem dN (hR:R E.ntmps F σ ρ a w G){l:aO}{s:SlR}(h:(wB l).eval σ=some s){v:Value}(hl:aB σ ρ G w l v):Uaf σ ρ G w s v:=by
 unfold wB at h;split at h
 ·rename_i r
  simp only[aB]at hl;simp only[aA,aS,Rb1]at h;split at h
  ·rename_i x m b9 hk
   simp only[aC,Rbv]at h;subst h;have hr:=hR.root hk;simp only[bP]at hr;rw[<- hl.1]at hr;refine⟨hr.rd.mono fun b hb=>⟨hb.imp id fun ⟨q,hq⟩=>⟨r,b9,q,by simp,hq⟩,rfl⟩,?_,by simp,?_⟩
   ·intro z hz
    simp only[Rby]at hz;subst hz;exact⟨m,x,hk⟩
   ·refine⟨rfl,⟨x,hk⟩,Nat.zero_le _,by simpa[bA] using hr,?_⟩
    simp only[bA,Sbw,wW];exact hl.1
  ·rename_i x m b9 hk
   simp only[aC,Rbv]at h;subst h;have hr:=(hR.root hk).1;rw[<- hl.1]at hr;exact⟨hr.mono fun b hb=>⟨.inl hb,rfl⟩,by simp,by simp,trivial⟩
  ·cases h
 ·rename_i deps p nie x
  simp only[aB]at hl;simp only[aA,Rbt]at h;obtain⟨ds,h1,h2⟩:=h;obtain⟨h3,h4,h5⟩:=iH h1;obtain⟨h6,h7,h8⟩:=hl.2 h3;have h9:=h6.drop hR h5;split at h2
  ·simp only[aC,Rbv]at h2
   subst h2;exact⟨h9,fun z hz=>(h4 z hz).2,h7,trivial⟩
  ·rename_i r k z dk
   simp only[aA,aS,Rb1]at h2;split at h2
   ·rename_i x' m b9 hk
    simp only[aC,Rbv]at h2;subst h2;have hz:=(h4 z (by simp)).1;simp only[Rby]at hz;subst hz;have je:Kad σ r k:=(h4 (r,k) (by simp)).2;obtain⟨m',x'',kk⟩:=je;rw[hk]at kk;obtain⟨rfl,rfl,rfl⟩:x'=x''/\m=m'/\b9=k:=by injection kk with kk;injection kk with a b c d;exact⟨a,b,c⟩
    refine⟨h9,fun z hz=>(h4 z hz).2,h7,rfl,⟨x',hk⟩,?_⟩
    cases p with
    |no=>trivial
    |view=>exact h8 r b9 m rfl ⟨x',hk⟩
    |path q=>exact h8 r b9 m rfl ⟨x',hk⟩
    |suf sz lo=>exact h8 r b9 m rfl ⟨x',hk⟩
   ·cases h2
  ·simp only[aC,Rbv]at h2
   subst h2;exact⟨h9,fun z hz=>(h4 z hz).2,h7,trivial⟩
 ·cases h
theorem Rd.inv {ok:Nat->Prop}{v:Value}{sz:Nat}{rs:List (List D)}(h:Rd ok w v (.rows sz rs)) :
  ∃ (A:Option Addr) (a:Addr) (n c:Nat) (vs:Nat->Nat->Value),v=.slice A n c/\rs.length=n/\n<=c/\(n=0\/A=some a)/\(∀ r∈rs,r.length=sz) /\
   (∀ i r,rs[i]?=some r->∀ j d,r[j]?=some d->ok a.block/\w.cell? (a.add (i*sz+j))=some (vs i j)) /\
   (∀ i r,rs[i]?=some r->∀ j d,r[j]?=some d->Rd ok w (vs i j) d):=by
 cases h with
 |sc h=>cases h
 |rows A a n c sz rs vs hn hc hA ef cu cL=>exact⟨A,a,n,c,vs,rfl,hn,hc,hA,ef,cu,cL⟩
theorem oM {t:TypeId}{i:TI}{info:TypeInfo}{u:TypeDesc}{e:Nat}(f:bY P t i info u)(h:i.elem=some e):u=.slice e:=by
 have:=f.elem.symm.trans h;unfold Xam at this;split at this
 ·rw[Sbs this]
 ·cases this
theorem Gac {t:TypeId}{i:TI}{info:TypeInfo}{u:TypeDesc}(f:bY P t i info u)(h:i.elem.isSome=true):∃ e,u=.slice e:=by
 cases e:i.elem with
 |none=>rw[e]at h;cases h
 |some e'=>exact⟨e',oM f e⟩
theorem Bap {t:TypeId}{i:TI}{info:TypeInfo}{u:TypeDesc}(f:bY P t i info u)(h:i.isStr=true):u=.string:=by
 have:Wal u=true:=by rw[<- h,f.eq];rfl
 unfold Wal at this;split at this
 ·rfl
 ·cases this
theorem Kar {t:TypeId}{i:TI}{info:TypeInfo}{u:TypeDesc}(f:bY P t i info u){k off ft:Nat}(h:i.flds[k]?=some (off,ft)) :
  ∃ fs fd,u=.struct fs/\fs[k]?=some fd/\fd.offset=off/\fd.type=ft:=by
 rw[f.flds]at h;unfold Xaa at h;split at h
 ·rename_i fs
  simp only[Sbx,Sbc,Sbj]at h;obtain⟨fd,h1,h2,h3⟩:=h;exact⟨fs,fd,rfl,by simpa using h1,h2,h3⟩
 ·simp at h
theorem Ka8 {α:Type}{as:Array α}{x:α}(h:as.toList=[x]):as=#[x]:=by
 apply Vbo;simpa using h
theorem Bb9 {α:Type}{as:Array α}{x y:α}(h:as.toList=[x,y]):as=#[x,y]:=by
 apply Vbo;simpa using h
theorem kV {b:Builtin}{args:Array Operand}{argTypes:Array TypeId}{s:Sem Value}{v:Value}(ho:o.op=.call { callee:=.builtin b,args,argTypes })
  (hb:∀ consts,builtin b argTypes o.type consts (args.map a.eval)=(do pure (.value (<- s)))) (h:s.run P w=.ok v w'):(execOp a.eval o).run P w=.ok (.value v) w':=by
 unfold execOp;simp only[ho,resolve,Sem.run_bind,Sem.run_pure,Result.andThen_ok,invoke,hb];rw[h];rfl
theorem Pap {α γ:Type}(f:α->γ)(x:α):Array.map f #[x]=#[f x]:=by simp
theorem Db7 {α γ:Type}(f:α->γ)(x y:α):Array.map f #[x,y]=#[f x,f y]:=by simp
theorem Paf {t ty:TypeId}{argTypes:Array TypeId}(ht:argTypes[0]?=some t)(hu:P.underlying t=some .string)(s:ByteArray) :
  (Builtin.len_ argTypes ty #[.string s]).run P w=.ok (.int .i64 s.size) w:=by
 simp[Builtin.len_,ht,run_underlying hu,goInt]
theorem run_len_slice {t ty e:TypeId}{argTypes:Array TypeId}(ht:argTypes[0]?=some t)(hu:P.underlying t=some (.slice e))(A:Option Addr)(n c:Nat) :
  (Builtin.len_ argTypes ty #[.slice A n c]).run P w=.ok (.int .i64 n) w:=by
 simp[Builtin.len_,ht,run_underlying hu,goInt]
theorem Ua6 (hR:R E.ntmps F σ ρ a w G)(hd:eU E.ntmps o)(hti:tQ P E.ti){nv:Nat}{args:Array Operand}{argTypes:Array TypeId}
  (ho:o.op=.call { callee:=.builtin .len,args,argTypes }) {x:Operand} (hx:args.toList=[x]) {t:TypeId} (ht:argTypes[0]?=some t) {ti:TI} (hi:E.ti t=some ti) {res:bM}
  (h:(do
   let l <- rdL E g t x
   match sV g l with
   | some a => do
    bL ti.isStr
    rM o g nv .slen [a]
   | none => do
    bL ti.elem.isSome
    let s <- wB l
    rM o g nv .len [s.x]:RdM bM).eval σ=some res) (hs:aK cf ρ g nv res.lets):fZ P E F σ ρ a w g o Q res.upd:=by
 obtain⟨info,u,f⟩:=aX (hti.ok _ _ hi);simp only[aA,Rbt]at h;obtain⟨l,h1,h2⟩:=h;split at h2
 ·rename_i y hy
  simp only[aA,aI,Rbt]at h2;obtain⟨_,h3,h4⟩:=h2;split at h3
  ·rename_i a5c
   obtain rfl:=Bap f a5c;refine dB hR hd h4 hs fun hg d hp=>?_
   have hv:=jD hg hy (fA hR hg h1);simp only[Sbk,Sbw]at hp;generalize y.val ρ=yv at hp hv;cases yv<;>simp only[aN.run]at hp<;>first|cases hp|skip
   rename_i s;refine⟨_,.int _ _,kV ho (fun _=>rfl) ?_⟩;have e:=Paf (P:=P) (w:=w) (ty:=o.type) ht f.und ⟨s.toArray⟩;rw[<- hv.str_inv]at e;rw[Ka8 hx,Pap];exact e
  ·cases h3
 ·rename_i hy
  simp only[aA,aI,Rbt]at h2;obtain⟨_,h3,s,h4,h5⟩:=h2;split at h3
  ·rename_i zy
   obtain⟨e,rfl⟩:=Gac f zy;refine dB hR hd h5 hs fun hg d hp=>?_
   have hv:=(dN hR h4 (fA hR hg h1)).rd;simp only[Sbk,Sbw]at hp;generalize s.x.val ρ=yv at hp hv;cases yv<;>simp only[aN.run]at hp<;>first|cases hp|skip
   rename_i sz rs;obtain⟨A,b,n,c,vs,e1,e2,-⟩:=hv.inv;refine⟨_,.int _ _,kV ho (fun _=>rfl) ?_⟩;have e:=run_len_slice (P:=P) (w:=w) (ty:=o.type) ht f.und A n c;rw[<- e1]at e;rw[Ka8 hx,e2,Pap];exact e
  ·cases h3
theorem aG.len {ls:List aO}:∀ {vs:List Value},aG σ ρ G w ls vs->vs.length=ls.length:=by
 induction ls with
 |nil=>intro vs h;simp only[aG]at h;simp[h]
 | cons l ls ih =>
  intro vs h;simp only[aG]at h;obtain⟨u,us,rfl,_,h2⟩:=h;simp[ih h2]
theorem aG.get {ls:List aO}:∀ {vs:List Value} {i:Nat} {l:aO},aG σ ρ G w ls vs->ls[i]?=some l->∃ v,vs[i]?=some v/\aB σ ρ G w l v:=by
 induction ls with
 |nil=>intro vs i l h hi;simp at hi
 | cons l0 ls ih =>
  intro vs i l h hi;simp only[aG]at h;obtain⟨u,us,rfl,h1,h2⟩:=h
  cases i with
  | zero =>
   simp only[Rb2,Rbv]at hi;subst hi;exact⟨u,rfl,h1⟩
  | succ i =>
   simp only[Sb4]at hi ⊢;exact ih h2 hi
theorem aG.of_get {ls:List aO}:∀ {vs:List Value},vs.length=ls.length->(∀ (i:Nat) (l:aO) (v:Value),ls[i]?=some l->vs[i]?=some v->aB σ ρ G w l v)->aG σ ρ G w ls vs:=by
 induction ls with
 |nil=>intro vs h _;simp only[aG];exact Tbm h
 | cons l0 ls ih =>
  intro vs h hg
  cases vs with
  |nil=>simp at h
  | cons u us =>
   simp only[aG];exact⟨u,us,rfl,hg 0 l0 u rfl rfl,ih (by simpa using h) fun i l v hi hv=>hg (i+1) l v hi hv⟩
theorem aG.drop {ls:List aO}{vs:List Value}(k:Nat)(h:aG σ ρ G w ls vs):aG σ ρ G w (ls.drop k) (vs.drop k):=by
 refine .of_get (by simp[h.len]) fun i l v hi hv=>?_
 rw[Sby]at hi hv;obtain⟨v',h1,h2⟩:=h.get hi;rw[h1]at hv;exact Sbs hv▸h2
theorem aG.take {ls:List aO}{vs:List Value}(k:Nat)(h:aG σ ρ G w ls vs):aG σ ρ G w (ls.take k) (vs.take k):=by
 refine .of_get (by simp[h.len]) fun i l v hi hv=>?_
 rw[Sb0]at hi hv;split at hi
 ·rename_i hk
  rw[if_pos hk]at hv;obtain⟨v',h1,h2⟩:=h.get hi;rw[h1]at hv;exact Sbs hv▸h2
 ·cases hi
theorem qP {agg:Bool}{ls:List aO}{sv:SV}(h:Qaz agg ls=some sv){vs:List Value}(hl:aG σ ρ G w ls vs){v:Value}
  (hv:if agg=true then v=.agg vs.toArray else vs=[v]):bV σ ρ G w sv v:=by
 unfold Qaz at h
 cases agg with
 | true =>
  simp only[cond_true,Rbv]at h;subst h;exact⟨vs,by simpa using hv,hl⟩
 | false =>
  simp only[cond_false]at h;split at h
  ·simp only[Rbv]at h
   subst h;simp only[Sbb,if_false]at hv;subst hv;simp only[aG]at hl;obtain⟨u,us,e,h1,-⟩:=hl;obtain⟨rfl,-⟩:=Vbp e;exact h1
  ·cases h
theorem Oa6 (hR:R E.ntmps F σ ρ a w G)(hd:eU E.ntmps o)(hti:tQ P E.ti){nv:Nat}{t:TypeId}{x:Operand}{k:Nat}(ho:o.op=.field t x k){ti fi:TI}{off ft:Nat}
  (hi:E.ti t=some ti) (hf:ti.flds[k]?=some (off,ft)) (hfi:E.ti ft=some fi) {res:bM}
  (h:(do
   match <- Mah E g t x with
   | .agg ls => do
    bL (Nat.ble (off+fi.size) ls.length&&Nat.beq ls.length ti.size)
    match Qaz fi.agg ((ls.drop off).take fi.size) with
    |some v=>Vav o g nv v
    |none=>.no
   |_=>.no:RdM bM).eval σ=some res) (hs:aK cf ρ g nv res.lets):fZ P E F σ ρ a w g o Q res.upd:=by
 obtain⟨info,u,f⟩:=aX (hti.ok _ _ hi);obtain⟨jx,u',f'⟩:=aX (hti.ok _ _ hfi);obtain⟨fs,fd,rfl,h1,rfl,rfl⟩:=Kar f hf;simp only[aA,Rbt]at h;obtain⟨sv,h2,h3⟩:=h;split at h3
 ·rename_i ls
  simp only[aA,aI,Rbt]at h3;obtain⟨_,h4,h5⟩:=h3;split at h4
  ·rename_i hb
   simp only[Rbu,Tbc]at hb;split at h5
   ·rename_i sv' iq
    refine vY hR hd h5 hs fun hg=>?_
    obtain⟨vs,e,hl⟩:=fJ hR hg h2;have ic:=(hl.drop fd.offset).take fi.size;have hlen:=hl.len
    have cr:∀ v,(if fi.agg=true then v=.agg ((vs.drop fd.offset).take fi.size).toArray else (vs.drop fd.offset).take fi.size=[v]) ->
      (execOp a.eval o).run P w=.ok (.value v) w:=by
     intro v hv;unfold execOp;simp only[ho];refine fF ?_;simp only[Instr.field,Sem.run_bind,run_underlying f.und,Result.andThen_ok,h1,e,asAgg,Sem.run_pure,part,f'.isAgg,f'.sizeOf]
     cases tM:fi.agg with
     | true =>
      rw[tM]at hv;simp only[if_true]at hv ⊢;rw[hv];simp only[Sem.run_bind,f'.sizeOf,Result.andThen_ok,Sem.run_pure];congr 2;apply Vbo;simp[List.extract_eq_take_drop]
     | false =>
      rw[tM]at hv;simp only[Sbb,if_false]at hv ⊢
      have:vs[fd.offset]?=some v:=by
       have h0:((vs.drop fd.offset).take fi.size)[0]?=some v:=by rw[hv];rfl
       rw[Sb0]at h0;split at h0
       ·rw[Sby]at h0;simpa using h0
       ·cases h0
      simp[this]
    cases tM:fi.agg with
    | true =>
     refine⟨.agg ((vs.drop fd.offset).take fi.size).toArray,qP iq ic (by rw[tM];rfl),cr _ (by rw[tM];rfl)⟩
    | false =>
     have ka:((ls.drop fd.offset).take fi.size).length=1:=by
      rw[tM]at iq;unfold Qaz at iq;simp only[cond_false]at iq;split at iq
      ·rename_i l ka;rw[ka];rfl
      ·cases iq
     have tD:((vs.drop fd.offset).take fi.size).length=1:=by rw[ic.len,ka]
     obtain⟨v,hv⟩:=List.length_eq_one_iff.1 tD;exact⟨v,qP iq ic (by rw[tM];exact hv),cr _ (by rw[tM];exact hv)⟩
   ·cases h5
  ·cases h4
 ·cases h3
theorem gU.get:∀ {ts:List (Bool×List aO)} {us:List Value} {i:Nat} {ag:Bool} {ls:List aO},gU σ ρ G w ts us->ts[i]?=some (ag,ls) ->
  ∃ u vs,us[i]?=some u/\aG σ ρ G w ls vs/\(if ag=true then u=.agg vs.toArray else vs=[u])
 |[],_,_,_,_,_,h=>by simp at h
 | (a0, l0) :: r, us, i, ag, ls, ht, h => by
  obtain⟨u,ee,vs,rfl,h1,h2,h3⟩:=ht
  cases i with
  | zero =>
   simp only[Rb2,Rbv,Sbj]at h;obtain⟨rfl,rfl⟩:=h;exact⟨u,vs,rfl,h1,h2⟩
  | succ i =>
   simp only[Sb4]at h ⊢;exact gU.get h3 h
theorem Jat (hR:R E.ntmps F σ ρ a w G)(hd:eU E.ntmps o){nv:Nat}{x:Operand}{i:Nat}(ho:o.op=.extract x i){res:bM}
  (h:(do
   match <- Mah E g 0 x with
   | .tup vs => match vs[i]? with
    | some (a, ls) => match Qaz a ls with
     |some v=>Vav o g nv v
     |none=>.no
    |none=>.no
   |_=>.no:RdM bM).eval σ=some res) (hs:aK cf ρ g nv res.lets):fZ P E F σ ρ a w g o Q res.upd:=by
 simp only[aA,Rbt]at h;obtain⟨sv,h2,h3⟩:=h;split at h3
 ·rename_i ts
  split at h3
  ·rename_i ag ls hi
   split at h3
   ·rename_i v hv
    refine vY hR hd h3 hs fun hg=>?_
    obtain⟨us,e,ht⟩:=fJ hR hg h2;obtain⟨u,vs,h4,h5,h6⟩:=ht.get hi;refine⟨u,qP hv h5 h6,?_⟩;unfold execOp;simp only[ho];refine fF ?_;simp[Instr.extract,e,h4]
   ·cases h3
  ·cases h3
 ·cases h3
theorem Ea7 (hR:R E.ntmps F σ ρ a w G)(hd:eU E.ntmps o)(hti:tQ P E.ti){nv:Nat}{t:TypeId}{x:Operand}{k:Nat}(ho:o.op=.fieldAddr t x k){ti fi:TI}{off ft:Nat}
  (hi:E.ti t=some ti) (hf:ti.flds[k]?=some (off,ft)) (hfi:E.ti ft=some fi) (pA:0<fi.size) {res:bM}
  (h:(do Oax o g off (<- rdL E g 0 x):RdM bM).eval σ=some res) (hs:aK cf ρ g nv res.lets):fZ P E F σ ρ a w g o Q res.upd:=by
 obtain⟨info,u,f⟩:=aX (hti.ok _ _ hi);obtain⟨jx,u',f'⟩:=aX (hti.ok _ _ hfi);obtain⟨fs,fd,rfl,h1,rfl,rfl⟩:=Kar f hf;simp only[aA,Rbt]at h;obtain⟨l,h2,h3⟩:=h
 have cr:∀ b:Addr,a.eval x=.pointer (some b)->(execOp a.eval o).run P w=.ok (.value (.pointer (some (b.add fd.offset)))) w:=by
  intro b hb;unfold execOp;simp only[ho];refine fF ?_;have dk:¬ fi.size=0:=by omega
  simp only[Instr.fieldAt,Sem.run_bind,run_underlying f.und,Result.andThen_ok,h1,Instr.sureAddr,hb,Sem.run_pure,fieldPlace,f'.sizeOf,if_neg dk]
 unfold Oax at h3;split at h3
 ·rename_i b off
  refine dH hR hd h3 hs fun hg _=>?_
  have hl:=fA hR hg h2;simp only[aB]at hl;refine⟨_,?_,cr _ hl.1⟩;simp only[bV,aB];exact⟨by rw[add_add],hl.2⟩
 ·rename_i l' sz i off
  refine dH hR hd h3 hs fun hg _=>?_
  have hl:=fA hR hg h2;simp only[aB]at hl;obtain⟨b,n,c,k',iv,h4,h5,h6,h7,h8⟩:=hl;refine⟨_,?_,cr _ h8⟩;simp only[bV,aB];exact⟨b,n,c,k',iv,h4,h5,h6,h7,by rw[add_add,Sbf]⟩
 ·cases h3
end
section
variable {P:Program} {E:Env} {F:bE} {σ:Nat->Option aP} {ρ:List D} {a:Act} {w w':World} {G:Gh} {g:Option (aJ×Bool)} {o:Oper} {cf:Nat->List D->Option (List D)} {Q:Exit->Act->World->Prop} {next:Act->World->Prop}
theorem Ea6 (hR:R E.ntmps F σ ρ a w G)(hd:eU E.ntmps o)(hti:tQ P E.ti){nv:Nat}{t:TypeId}{x i:Operand}(ho:o.op=.indexAddr t x i){ti ei:TI}{e:Nat}
  (hi:E.ti t=some ti) (he:ti.elem=some e) (s9:E.ti e=some ei) {res:bM}
  (h:(do
   let l <- rdL E g t x
   let s <- wB l
   let a <- rdA E g 0 i
   bL (Nat.blt 0 ei.size)
   rO o g [.prim .inb [s.x,a] 0] (.one (.pe l ei.size a 0)) []:RdM bM).eval σ=some res) (hs:aK cf ρ g nv res.lets):fZ P E F σ ρ a w g o Q res.upd:=by
 obtain⟨info,u,f⟩:=aX (hti.ok _ _ hi);obtain⟨jx,u',f'⟩:=aX (hti.ok _ _ s9);obtain rfl:=oM f he;simp only[aA,Rbt,aI]at h;obtain⟨l,h1,s,h2,y,h3,_,h4,h5⟩:=h;refine dH hR hd h5 hs fun hg cj=>?_
 obtain⟨ds,hp,-,-⟩:=step1 cj hg;have hl:=fA hR hg h1;have ir:=(dN hR h2 hl).rd;have hy:=iP hR hg h3;simp only[Sbk,Sbw]at hp;generalize hxv:s.x.val ρ=xv at hp ir;generalize hyv:y.val ρ=yv at hp hy;cases xv<;>cases yv<;>simp only[aN.run]at hp<;>first|cases hp|skip
 rename_i sz rs k iv;split at hp
 ·rename_i hb
  obtain⟨A,b,n,c,vs,e1,e2,e3,e4,-⟩:=ir.inv;have hn:n≠0:=by omega
  have hA:A=some b:=e4.resolve_left hn;subst hA;refine⟨.pointer (some (b.add (iv.toNat*ei.size+0))),?_,?_⟩
  ·simp only[bV,aB]
   exact⟨b,n,c,k,iv,e1▸hl,hyv,hb.1,by omega,rfl⟩
  ·unfold execOp
   simp only[ho];refine fF ?_;have aw:(0:Int)<=iv/\iv<(n:Int):=⟨hb.1,by rw[<- e2];exact hb.2⟩;simp only[Instr.indexAt,hy.int_inv,asIntOf,Sem.run_bind,Sem.run_pure,Result.andThen_ok,run_underlying f.und,e1,if_pos aw,f'.sizeOf,Nat.add_zero]
 ·cases hp
theorem Oa5 (hR:R E.ntmps F σ ρ a w G)(hd:eU E.ntmps o)(hti:tQ P E.ti){nv:Nat}{t:TypeId}{x i:Operand}(ho:o.op=.index t x i){ti:TI}
  (hi:E.ti t=some ti) {res:bM}
  (h:(do
   bL ti.isStr
   let s <- rdA E g t x
   let a <- rdA E g 0 i
   rM o g nv .sidx [s,a]:RdM bM).eval σ=some res) (hs:aK cf ρ g nv res.lets):fZ P E F σ ρ a w g o Q res.upd:=by
 obtain⟨info,u,f⟩:=aX (hti.ok _ _ hi);simp only[aA,Rbt,aI]at h;obtain⟨_,h0,x',h1,y,h2,h3⟩:=h;split at h0
 ·rename_i cj
  obtain rfl:=Bap f cj;refine dB hR hd h3 hs fun hg d hp=>?_
  have hx:=iP hR hg h1;have hy:=iP hR hg h2;simp only[Sbk,Sbw]at hp;generalize x'.val ρ=xv at hp hx;generalize y.val ρ=yv at hp hy;cases xv<;>cases yv<;>simp only[aN.run]at hp<;>first|cases hp|skip
  rename_i s k iv;split at hp
  ·rename_i h0i
   split at hp
   ·rename_i b hb
    simp only[Rbv,Tbj,and_true]at hp;subst hp;refine⟨_,.int _ _,?_⟩;unfold execOp;simp only[ho];refine fF ?_
    have e:(⟨s.toArray⟩:ByteArray)[iv.toNat]?=some b:=by
     have:iv.toNat<s.length:=by
      rcases Sbh iv.toNat s.length with h|h
      ·exact h
      ·rw[Tb4 h]at hb;cases hb
     rw[getElem?_pos (⟨s.toArray⟩:ByteArray) iv.toNat (by simpa[ByteArray.size] using this)];rw[Rbz this]at hb;rw[<- hb];rfl
    simp only[Instr.index,hy.int_inv,hx.str_inv,asIntOf,Sem.run_bind,Sem.run_pure,Result.andThen_ok,run_underlying f.und,if_pos h0i,e]
   ·cases hp
  ·cases hp
 ·cases h0
theorem wC (hR:R E.ntmps F σ ρ a w G)(hg:gOn ρ g=true):∀ {xs:List Operand} {ts:List TypeId} {oz:List SV},(xG E g xs ts).eval σ=some oz ->
  oz.length=xs.length/\∀ (i:Nat) (sv:SV) (x:Operand),oz[i]?=some sv->xs[i]?=some x->bV σ ρ G w sv (a.eval x)
 | [], ts, oz, h => by
  simp only[xG,aC,Rbv]at h;subst h;simp
 | x :: xs, ts, oz, h => by
  simp only[xG,aA,Rbt,aC,Rbv]at h;obtain⟨sv,h1,l,h2,rfl⟩:=h;obtain⟨h3,h4⟩:=wC hR hg h2;refine⟨by simp[h3],fun i sv' x' hi hx=>?_⟩
  cases i with
  | zero =>
   simp only[Rb2,Rbv]at hi hx;subst hi hx;exact fJ hR hg h1
  | succ i =>
   simp only[Sb4]at hi hx;exact h4 i sv' x' hi hx
theorem Bav:∀ {oz:List SV} {ls:List aO},sW oz=some ls->ls.length=oz.length/\∀ (i:Nat) (l:aO),ls[i]?=some l->oz[i]?=some (.one l)
 | [], ls, h => by
  simp only[sW,Rbv]at h;subst h;simp
 | .one l :: r, ls, h => by
  simp only[sW,Sbc]at h;obtain⟨m,h1,rfl⟩:=h;obtain⟨h2,h3⟩:=Bav h1;refine⟨by simp[h2],fun i l' hi=>?_⟩
  cases i with
  |zero=>simp only[Rb2,Rbv]at hi ⊢;rw[hi]
  |succ i=>simp only[Sb4]at hi ⊢;exact h3 i l' hi
 |.dead::_,_,h=>by simp[sW]at h
 |.agg _::_,_,h=>by simp[sW]at h
 |.tup _::_,_,h=>by simp[sW]at h
theorem Hac (hR:R E.ntmps F σ ρ a w G)(hd:eU E.ntmps o){nv:Nat}{fn:FuncId}{first fW:Array Operand}(ho:o.op=.makeFunc (.func fn) first fW){res:bM}
  (h:(do
   bL first.isEmpty
   let vs <- xG E g fW.toList []
   let ls <- mG (sW vs)
   rO o g [] (.one (.clo fn ls)) []:RdM bM).eval σ=some res) (hs:aK cf ρ g nv res.lets):fZ P E F σ ρ a w g o Q res.upd:=by
 simp only[aA,Rbt,aI,aV]at h;obtain⟨_,h0,oz,h1,ls,u6,h2⟩:=h;split at h0
 ·rename_i hf
  refine dH hR hd h2 hs fun hg _=>⟨.func (.func fn) #[] (fW.map a.eval),?_,?_⟩
  ·obtain⟨h3,h4⟩:=wC hR hg h1
   simp only[bV,aB];obtain⟨h5,h6⟩:=Bav u6;refine⟨fW.toList.map a.eval,by rw[<- Array.toList_map,Array.toArray_toList],.of_get (by simp[h3,h5]) fun i l v hi hv=>?_⟩;simp only[Sbx,Sbc]at hv;obtain⟨x,hv,rfl⟩:=hv;exact h4 i _ x (h6 i l hi) hv
  ·unfold execOp
   simp only[ho];refine fF ?_;have:first=#[]:=by simpa using hf
   subst this;simp[Instr.makeFunc]
 ·cases h0
theorem Hab (hR:R E.ntmps F σ ρ a w G)(hd:eU E.ntmps o){nv:Nat}{x:Operand}(ho:o.op=.nilCheck x){res:bM}
  (h:(do
   match <- rdL E g 0 x with
   | .rp deps sz y => do
    let ds <- uF deps
    rO o g [.prim .ne [y] 0] (.one (.pe (.sn ds .no false y) sz (.c (.int .i64 0)) 0)) []
   |.px b off=>rO o g [] (.one (.px b off)) []
   |.pe l sz i off=>rO o g [] (.one (.pe l sz i off)) []
   |.clo f cs=>rO o g [] (.one (.clo f cs)) []
   |.pn=>rO o g [.prim .ne [.c (.rows 0 [])] 0] (.one (.pe (.sn [] .no false (.c (.rows 0 []))) 0 (.c (.int .i64 0)) 0)) []
   |_=>.no:RdM bM).eval σ=some res) (hs:aK cf ρ g nv res.lets):fZ P E F σ ρ a w g o Q res.upd:=by
 simp only[aA,Rbt]at h;obtain⟨l,h1,h2⟩:=h
 have p8:∀ b,a.eval x=.pointer (some b)->(execOp a.eval o).run P w=.ok (.value (.pointer (some b))) w:=by
  intro b hb;unfold execOp;simp only[ho,hb];rfl
 split at h2
 ·rename_i deps sz y
  simp only[aA,Rbt]at h2;obtain⟨ds,h3,h4⟩:=h2;refine dH hR hd h4 hs fun hg cj=>?_
  obtain⟨zs,hp,-,-⟩:=step1 cj hg;have hl:=fA hR hg h1;simp only[aB]at hl;obtain⟨tD,hv2,hv3⟩:=iH h3
  rcases hl.2 tD with ⟨e1,z,e2⟩|⟨b,row,e1,e2,e3⟩
  ·simp only[Sbk,Sbw,e2,aN.run]at hp
   simp at hp
  ·refine⟨.pointer (some b),?_,p8 b e1⟩
   simp only[bV,aB];refine⟨b,1,1,.i64,0,⟨⟨rfl,fun z hz=>hl.1.2 z (hv2 z hz).1⟩,fun _=>⟨?_,by simp,trivial⟩⟩,rfl,by omega,by simp,by simp[Addr.add]⟩;rw[e2];exact e3.drop hR hv3
 ·rename_i b off
  refine dH hR hd h2 hs fun hg _=>?_
  have hl:=fA hR hg h1;have ic:=hl;simp only[aB]at ic;exact⟨_,hl,by rw[ic.1];exact p8 _ ic.1⟩
 ·rename_i l' sz i off
  refine dH hR hd h2 hs fun hg _=>?_
  have hl:=fA hR hg h1;have ic:=hl;simp only[aB]at ic;obtain⟨b,n,c,k,iv,-,-,-,-,e⟩:=ic;exact⟨_,hl,by rw[e];exact p8 _ e⟩
 ·rename_i f cs
  refine dH hR hd h2 hs fun hg _=>?_
  have hl:=fA hR hg h1;have ic:=hl;simp only[aB]at ic;obtain⟨vs,e,-⟩:=ic;refine⟨_,hl,?_⟩;unfold execOp;simp only[ho,e];rfl
 ·refine dH hR hd h2 hs fun hg cj=>?_
  obtain⟨zs,hp,-,-⟩:=step1 cj hg;simp[aJ.val,aN.run]at hp
 ·cases h2
theorem Abg {op:BinOp}{x y:Value}{dx dy d:D}(hx:Sc x dx)(hy:Sc y dy)(h:Hbo op dx dy=some d)(kr:op=.lss\/op=.gtr) :
  ∃ v,Sc v d/\(if op=.lss then Builtin.min2 x y else Builtin.max2 x y).run P w=.ok v w:=by
 unfold Hbo at h;split at h
 ·rename_i k x' k' y'
  rw[hx.int_inv,hy.int_inv];split at h
  ·rename_i hk
   subst hk;obtain rfl:=Sbs h;refine⟨_,.int _ _,?_⟩
   rcases kr with rfl|rfl
   ·simp[Builtin.min2]
   ·simp[Builtin.max2]
  ·cases h
 ·cases h
theorem Qa8 {op:BinOp}(kr:op=.lss\/op=.gtr):∀ {vs:List Value} {ds:List D} {x:Value} {dx d:D},Sc x dx->vs.length=ds.length->(∀ (i:Nat) (v:Value) (e:D),vs[i]?=some v->ds[i]?=some e->Sc v e) ->
  Kaq op dx ds=some d->∃ v,Sc v d/\(vs.foldlM (fun a b=>if op=.lss then Builtin.min2 a b else Builtin.max2 a b) x).run P w=.ok v w
 | [], ds, x, dx, d, hx, hl, _, h => by
  obtain rfl:ds=[]:=Tbm (by simpa using hl.symm);simp only[Kaq,Rbv]at h;subst h;exact⟨x,hx,rfl⟩
 | v :: vs, ds, x, dx, d, hx, hl, hg, h => by
  cases ds with
  |nil=>simp at hl
  | cons e es =>
   simp only[Kaq,Rbt]at h;obtain⟨z,h1,h2⟩:=h;obtain⟨u,h3,h4⟩:=Abg (P:=P) (w:=w) hx (hg 0 v e rfl rfl) h1 kr;obtain⟨r,h5,h6⟩:=Qa8 kr (vs:=vs) (ds:=es) h3 (by simpa using hl) (fun i v' e' hi he=>hg (i+1) v' e' hi he) h2;refine⟨r,h5,?_⟩;rw[List.foldlM_cons,Sem.run_bind,h4];exact h6
theorem Ia6 (hg:gOn ρ g=true):∀ {ls:List aO} {xs:List aJ},Gaz g ls=some xs->xs.length=ls.length /\
  ∀ (i:Nat) (l:aO) (x:aJ) (v:Value),ls[i]?=some l->xs[i]?=some x->aB σ ρ G w l v->Sc v (x.val ρ)
 | [], xs, h => by
  simp only[Gaz,Rbv]at h;subst h;simp
 | l :: ls, xs, h => by
  simp only[Gaz,Rbt,Sbc]at h;obtain⟨x,h1,ys,h2,rfl⟩:=h;obtain⟨h3,h4⟩:=Ia6 hg h2;refine⟨by simp[h3],fun i l' x' v hi hx hl=>?_⟩
  cases i with
  | zero =>
   simp only[Rb2,Rbv]at hi hx;subst hi hx;exact jD hg h1 hl
  | succ i =>
   simp only[Sb4]at hi hx;exact h4 i l' x' v hi hx hl
theorem gP (hR:R E.ntmps F σ ρ a w G)(hd:eU E.ntmps o){nv:Nat}{args:Array Operand}{argTypes:Array TypeId}{b:Builtin}{p:aN}{op:BinOp}
  (hb:(b=.min/\p=.min/\op=.lss)\/(b=.max/\p=.max/\op=.gtr))
  (ho:o.op=.call { callee:=.builtin b,args,argTypes }) {oz:List SV} {ts:List TypeId} {ls:List aO} {xs:List aJ} {res:bM}
  (h1:(xG E g args.toList ts).eval σ=some oz) (h2:sW oz=some ls) (h3:Gaz g ls=some xs)
  (h:(rM o g nv p xs).eval σ=some res) (hs:aK cf ρ g nv res.lets):fZ P E F σ ρ a w g o Q res.upd:=by
 refine dB hR hd h hs fun hg d hp=>?_
 obtain⟨h4,h5⟩:=wC hR hg h1;obtain⟨h6,h7⟩:=Bav h2;obtain⟨h8,h9⟩:=Ia6 (σ:=σ) (ρ:=ρ) (G:=G) (w:=w) hg h3
 have cQ:∀ (i:Nat) (v:Value) (e:D),(args.toList.map a.eval)[i]?=some v->(xs.map (·.val ρ))[i]?=some e->Sc v e:=by
  intro i v e hv he;simp only[Sbx,Sbc]at hv he;obtain⟨x,hx,rfl⟩:=hv;obtain⟨y,hy,rfl⟩:=he
  have aw:i<ls.length:=by
   rw[<- h8];exact (Rbw.1 hy).1
  have hl:ls[i]?=some ls[i]:=Rbz aw;exact h9 i _ y _ hl hy (h5 i _ x (h7 i _ hl) hx)
 have hlen:(args.toList.map a.eval).length=(xs.map (·.val ρ)).length:=by
  simp only[Sbr];omega
 generalize iw:args.toList.map a.eval=vs at cQ hlen;generalize hes:xs.map (·.val ρ)=es at cQ hlen hp
 have fb:args.map a.eval=vs.toArray:=by
  apply Vbo;simpa using iw
 cases es with
 |nil=>rcases hb with ⟨-,rfl,-⟩ | ⟨-,rfl,-⟩<;>simp[aN.run]at hp
 | cons e es =>
  cases vs with
  |nil=>simp at hlen
  | cons v vs =>
   have hf:Kaq op e es=some d:=by
    rcases hb with ⟨-,rfl,rfl⟩|⟨-,rfl,rfl⟩<;>simpa[aN.run] using hp
   obtain⟨r,du,eC⟩:=Qa8 (P:=P) (w:=w) (op:=op) (by rcases hb with ⟨-,-,rfl⟩|⟨-,-,rfl⟩<;>simp) (cQ 0 v e rfl rfl) (by simpa using hlen)
    (fun i v' e' hi he=>cQ (i+1) v' e' hi he) hf
   refine⟨r,du,?_⟩
   rcases hb with ⟨rfl,rfl,rfl⟩|⟨rfl,rfl,rfl⟩
   ·refine kV ho (s:=Builtin.min_ argTypes o.type (args.map a.eval)) (fun _=>rfl) ?_
    rw[fb];simpa[Builtin.min_] using eC
   ·refine kV ho (s:=Builtin.max_ argTypes o.type (args.map a.eval)) (fun _=>rfl) ?_
    rw[fb];simpa[Builtin.max_] using eC
end
section
variable {P:Program} {E:Env} {F:bE} {σ:Nat->Option aP} {ρ:List D} {a:Act} {w w':World} {G:Gh} {g:Option (aJ×Bool)} {o:Oper} {cf:Nat->List D->Option (List D)} {Q:Exit->Act->World->Prop} {next:Act->World->Prop}
def Scs (vs:List Value)(ds:List D):Prop:=vs.length=ds.length/\∀ (i:Nat) (v:Value) (d:D),vs[i]?=some v->ds[i]?=some d->Sc v d
theorem Scs.drop {vs:List Value}{ds:List D}(h:Scs vs ds)(k:Nat):Scs (vs.drop k) (ds.drop k) :=
 ⟨by simp[h.1],fun i v d hv hd=>by rw[Sby]at hv hd;exact h.2 _ v d hv hd⟩
theorem Scs.take {vs:List Value}{ds:List D}(h:Scs vs ds)(k:Nat):Scs (vs.take k) (ds.take k) :=
 ⟨by simp[h.1],fun i v d hv hd=>by
  rw[Sb0]at hv hd;split at hv
  ·rename_i hk
   rw[if_pos hk]at hd;exact h.2 _ v d hv hd
  ·cases hv⟩
theorem Gaa:∀ {ks ls:List Nat} {a b c d:List D},a.length=ks.length->b.length=ks.length->∀ {r:Bool},Oam (ks++ls) (a++c) (b++d)=some r ->
  ∃ r1,Oam ks a b=some r1/\(r1=true->Oam ls c d=some r)/\(r1=false->r=false)
 |[],ls,[],[],c,d,_,_,r,h=>⟨true,rfl,fun _=>h,fun h=>by cases h⟩
 | k :: ks, ls, x :: a, y :: b, c, d, h1, h2, r, h => by
  simp only[Tb6,Oam,Rbt]at h;obtain⟨e,h3,h4⟩:=h
  cases e with
  | true =>
   simp only[if_true]at h4;obtain⟨r1,h5,h6,h7⟩:=Gaa (by simpa using h1) (by simpa using h2) h4;exact⟨r1,by simp[Oam,h3,h5],h6,h7⟩
  | false =>
   simp only[Sbb,if_false,Rbv]at h4;exact⟨false,by simp[Oam,h3],(fun h=>by cases h),fun _=>h4.symm⟩
 |[],_,_::_,_,_,_,h,_,_,_=>by simp at h
 |[],_,[],_::_,_,_,_,h,_,_=>by simp at h
 |_::_,_,[],_,_,_,h,_,_,_=>by simp at h
 |_::_,_,_::_,[],_,_,_,h,_,_=>by simp at h
theorem Hb9 (l m:List UInt8):((⟨l.toArray⟩:ByteArray)==⟨m.toArray⟩)=(l==m):=by
 have:((⟨l.toArray⟩:ByteArray)==⟨m.toArray⟩)=(l.toArray==m.toArray):=rfl;rw[this];simp
theorem Rbp {x y:D}{r:Bool}(h:eqD 0 x y=some r):∃ k i j,x=.int k i/\y=.int k j/\r=(i==j):=by
 cases x<;>cases y<;>simp only[eqD]at h<;>first|cases h|skip
 split at h
 ·rename_i e
  subst e;exact⟨_,_,_,rfl,rfl,(Sbs h).symm⟩
 ·cases h
theorem Rbo {x y:D}{r:Bool}(h:eqD 1 x y=some r):∃ i j,x=.bool i/\y=.bool j/\r=(i==j):=by
 cases x<;>cases y<;>simp only[eqD]at h<;>first|(cases h;done)|skip
 exact⟨_,_,rfl,rfl,(Sbs h).symm⟩
theorem Rbn {x y:D}{r:Bool}(h:eqD 2 x y=some r):∃ i j,x=.str i/\y=.str j/\r=(i==j):=by
 cases x<;>cases y<;>simp only[eqD]at h<;>first|(cases h;done)|skip
 exact⟨_,_,rfl,rfl,(Sbs h).symm⟩
theorem Lb5 {x y:D}{r:Bool}(h:eqD 3 x y=some r):False:=by
 cases x<;>cases y<;>simp[eqD]at h
theorem Lb4 {t:TypeId}{x y:Value}{dx dy:D}{b:Bool}(hx:Sc x dx)(hy:Sc y dy)(h:eqD (Dae (mQ P t)) dx dy=some b)(n:Nat):(Op.equalIn (n+1) t x y).run P w=.ok b w:=by
 unfold mQ at h;split at h
 ·rename_i k hu
  obtain⟨k1,i,j,rfl,rfl,rfl⟩:=Rbp h;simp[Op.equalIn,run_underlying hu,hx.int_inv,hy.int_inv]
 ·rename_i hu
  obtain⟨i,j,rfl,rfl,rfl⟩:=Rbo h;simp[Op.equalIn,run_underlying hu,hx.bool_inv,hy.bool_inv]
 ·rename_i hu
  obtain⟨l,m,rfl,rfl,rfl⟩:=Rbn h;simp only[Op.equalIn,run_underlying hu,hx.str_inv,hy.str_inv,Sem.run_bind,Result.andThen_ok,Sem.run_pure];rw[Hb9]
 ·exact (Lb5 h).elim
 ·exact (Lb5 h).elim
 ·exact (Lb5 h).elim
def oV (P:Program)(t:TypeId)(vs:List Value)(v:Value):Prop:=match P.underlying t with
 |some (.struct _)=>v=.agg vs.toArray
 |_=>vs=[v]
theorem Nal (P:Program)(d:Nat):∀ (fs:List Field) (acc l:List TypeId),fs.foldl (fun acc f=>acc.bind fun l=>(flat P d f.type).bind fun m=>bif Nat.beq f.offset l.length then some (l++m) else none) (some acc)=some l ->
  ∃ ls,l=acc++ls/\(∀ f r,fs=f::r->∃ m,flat P d f.type=some m/\f.offset=acc.length/\∃ kt,ls=m++kt/\r.foldl (fun acc f=>acc.bind fun l=>(flat P d f.type).bind fun m=>bif Nat.beq f.offset l.length then some (l++m) else none) (some (acc++m))=some l)/\(fs=[]->ls=[])
 | [], acc, l, h => by
  simp only[List.foldl_nil,Rbv]at h;exact⟨[],by simp[h],by simp,fun _=>rfl⟩
 | f :: r, acc, l, h => by
  simp only[List.foldl_cons,Rb1]at h
  cases hm:flat P d f.type with
  | none =>
   rw[hm]at h;simp only[Option.bind_none]at h
   have:∀ (r:List Field),r.foldl (fun acc f=>acc.bind fun l=>(flat P d f.type).bind fun m=>bif Nat.beq f.offset l.length then some (l++m) else none) (none:Option (List TypeId))=none:=by
    intro r
    induction r with
    |nil=>rfl
    |cons _ _ ih=>simpa using ih
   rw[this]at h;cases h
  | some m =>
   rw[hm]at h;simp only[Rb1]at h
   cases ho:Nat.beq f.offset acc.length with
   | false =>
    rw[ho]at h;simp only[cond_false]at h
    have:∀ (r:List Field),r.foldl (fun acc f=>acc.bind fun l=>(flat P d f.type).bind fun m=>bif Nat.beq f.offset l.length then some (l++m) else none) (none:Option (List TypeId))=none:=by
     intro r
     induction r with
     |nil=>rfl
     |cons _ _ ih=>simpa using ih
    rw[this]at h;cases h
   | true =>
    rw[ho]at h;simp only[cond_true]at h;obtain⟨ls,h1,-,-⟩:=Nal P d r (acc++m) l h;refine⟨m++ls,by rw[h1,List.append_assoc],fun f' r' e=>?_,by simp⟩;obtain⟨rfl,rfl⟩:=Vbp e;exact⟨m,hm,by simpa using ho,ls,rfl,h⟩
theorem sQ {α:Type}(l:List α)(k m:Nat):(l.drop k).take m++l.drop (k+m)=l.drop k:=by
 rw[<- List.drop_drop,List.take_append_drop]
theorem Aa8 {t:TypeId}{d:Nat}{m:List TypeId}(hm:flat P d t=some m)(hs:Kb9 P d t=true)(hc:Ka3 P d t=true){vs:List Value}{off:Nat}(hl:off+m.length<=vs.length) :
  ∃ v,oV P t ((vs.drop off).take m.length) v/\(part t vs.toArray off).run P w=.ok v w:=by
 unfold Kb9 at hs;rw[hm]at hs
 cases hi:P.info? t with
 |none=>rw[hi]at hs;cases hs
 | some i =>
  rw[hi]at hs;simp only[Sbq]at hs
  cases d with
  |zero=>cases hc
  | succ d =>
   simp only[Ka3]at hc;simp only[flat]at hm
   cases hu:P.underlying t with
   |none=>rw[hu]at hm;cases hm
   | some u =>
    unfold oV;rw[hu]at hc hm ⊢;simp only[part,Sem.run_bind,La9 hu,Result.andThen_ok,run_sizeOf hi,Sem.run_ite];cases u<;>first|(cases hc;done)|skip
    case struct fs =>
     refine⟨_,rfl,?_⟩;simp only[Ham,if_true,Sem.run_bind,run_sizeOf hi,Result.andThen_ok,Sem.run_pure,<- hs];congr 2;apply Vbo;simp[List.extract_eq_take_drop]
    all_goals
     simp only[Rbv]at hm;subst hm;have aw:off<vs.length:=by simp only[Tbl]at hl;omega
     refine⟨vs[off],?_,?_⟩
     ·simp only[Tbl]
      rw[List.drop_eq_getElem_cons aw];rfl
     ·simp[Ham,Rbz aw]
theorem Fa9 (P:Program)(w:World):∀ (d:Nat) (t:TypeId) (l:List TypeId),Ka3 P d t=true->flat P d t=some l->∀ (xs ys:List Value) (dx dy:List D) (b:Bool) (x y:Value),
  Scs xs dx->Scs ys dy->xs.length=l.length->ys.length=l.length->oV P t xs x->oV P t ys y->Oam (l.map fun t=>Dae (mQ P t)) dx dy=some b ->
  ∀ n,d<=n->(Op.equalIn n t x y).run P w=.ok b w
 |0,t,l,hc,_=>by cases hc
 | d + 1, t, l, hc, hf => by
  intro xs ys dx dy b x y hx hy vq hly zj ze he n hn;obtain⟨n,rfl⟩:∃ m,n=m+1:=⟨n-1,by omega⟩
  have u5:(∀ fs,P.underlying t≠some (.struct fs))->flat P (d+1) t=some [t]->(Op.equalIn (n+1) t x y).run P w=.ok b w:=by
   intro vu hft;rw[hf]at hft;obtain rfl:=Sbs hft
   have h1:xs=[x]:=by
    unfold oV at zj;split at zj
    ·rename_i fs hu;exact absurd hu (vu fs)
    ·exact zj
   have h2:ys=[y]:=by
    unfold oV at ze;split at ze
    ·rename_i fs hu;exact absurd hu (vu fs)
    ·exact ze
   subst h1 h2
   match dx,dy,hx.1,hy.1 with
   | [dx], [dy], _, _ =>
    simp only[Sbk,Sbw,Oam,Rbt]at he;obtain⟨e,h3,h4⟩:=he;have:e=b:=by cases e<;>simpa using h4
    subst this;exact Lb4 (hx.2 0 x dx rfl rfl) (hy.2 0 y dy rfl rfl) h3 n
  simp only[Ka3]at hc;simp only[flat]at hf
  cases hu:P.underlying t with
  |none=>rw[hu]at hc;cases hc
  | some u =>
   rw[hu]at hc hf;cases u<;>first|(cases hc;done)|skip
   case struct fs =>
    simp only[Rbu,Sbl,Sbp]at hc;obtain⟨xz,cQ⟩:=hc;have tz:x=.agg xs.toArray:=by unfold oV at zj;rw[hu]at zj;exact zj
    have um:y=.agg ys.toArray:=by unfold oV at ze;rw[hu]at ze;exact ze
    subst tz um;have hfs:P.fieldsOf t=fs:=by simp[Program.fieldsOf,hu]
    rw[run_equalIn_struct (P:=P) w n t _ _ (by rw[hfs];exact hu) xz,hfs];dsimp only at hf;generalize hgl:fs.toList=gs at hf cQ
    have key : ∀ (gs : List Field) (acc : List TypeId) (b : Bool), (∀ f ∈ gs, (f.name != "_") = true /\ Ka3 P d f.type = true /\ Kb9 P d f.type = true) ->
      gs.foldl (fun acc f=>acc.bind fun l=>(flat P d f.type).bind fun m=>bif Nat.beq f.offset l.length then some (l++m) else none) (some acc)=some l ->
      Oam ((l.drop acc.length).map fun t=>Dae (mQ P t)) (dx.drop acc.length) (dy.drop acc.length)=some b ->
      (Op.eqFields n xs.toArray ys.toArray gs).run P w=.ok b w:=by
     intro gs
     induction gs with
     | nil =>
      intro acc b _ qg hq;simp only[List.foldl_nil,Rbv]at qg;subst qg;have e1:dx.drop acc.length=[]:=List.drop_of_length_le (by rw[<- hx.1];omega);have e2:dy.drop acc.length=[]:=List.drop_of_length_le (by rw[<- hy.1];omega);simp only[List.drop_length,Sbw,e1,e2,Oam,Rbv]at hq;subst hq;simp[Op.eqFields]
     | cons f r ih =>
      intro acc b rh qg hq;obtain⟨ls,e1,h1,-⟩:=Nal P d (f::r) acc l qg;obtain⟨m,hm,p0,kt,e2,yw⟩:=h1 f r rfl;obtain⟨hname,wi,ef⟩:=rh f Sbe;have hlen:acc.length+m.length<=l.length:=by rw[e1,e2];simp
      have rk:l.drop acc.length=m++kt:=by rw[e1,e2];simp
      rw[rk,Ubg]at hq;rw[<- sQ dx acc.length m.length,<- sQ dy acc.length m.length]at hq
      have ka:((dx.drop acc.length).take m.length).length=(m.map fun t=>Dae (mQ P t)).length:=by
       simp only[Sbn,Sb8,Sbr,<- hx.1];omega
      have lf:((dy.drop acc.length).take m.length).length=(m.map fun t=>Dae (mQ P t)).length:=by
       simp only[Sbn,Sb8,Sbr,<- hy.1];omega
      obtain⟨r1,h2,h3,h4⟩:=Gaa ka lf hq;obtain⟨vx,hvx,hpx⟩:=Aa8 (w:=w) hm ef wi (vs:=xs) (off:=acc.length) (by omega);obtain⟨vy,hvy,hpy⟩:=Aa8 (w:=w) hm ef wi (vs:=ys) (off:=acc.length) (by omega)
      have heq:=Fa9 P w d f.type m wi hm _ _ _ _ r1 vx vy ((hx.drop _).take _) ((hy.drop _).take _) (by simp only[Sbn,Sb8];omega)
       (by simp only[Sbn,Sb8];omega) hvx hvy h2 n (by omega)
      have hname' : f.name ≠ "_" := by simpa using hname
      rw[Op.eqFields];simp only[if_pos hname',Sem.run_bind,p0,hpx,hpy,heq,Result.andThen_ok]
      cases r1 with
      | false =>
       obtain rfl:=h4 rfl;simp
      | true =>
       have:=ih (acc++m) b (fun f' hf'=>rh f' (Rb7 _ hf')) yw (by
        rw[List.length_append,<- List.drop_drop,rk];simpa using h3 rfl)
       simpa using this
    exact key gs [] b (fun f hf'=>by
     have:=cQ f hf';exact⟨this.1.1,this.1.2,this.2⟩) hf (by simpa using he)
   all_goals exact u5 (by intro fs e;rw[hu]at e;cases e) (by simp[flat,hu])
theorem Gay:∀ {ls:List aO} {xs:List aJ} {vs:List Value},atoms ls=some xs->aG σ ρ G w ls vs->Scs vs (xs.map (·.val ρ))/\xs.length=ls.length
 | [], xs, vs, h, hl => by
  simp only[atoms,Rbv]at h;simp only[aG]at hl;subst h hl;exact⟨⟨rfl,by simp⟩,rfl⟩
 | l :: ls, xs, vs, h, hl => by
  cases l<;>simp only[atoms]at h<;>first|(cases h;done)|skip
  simp only[Sbc]at h;obtain⟨ys,h1,rfl⟩:=h;simp only[aG]at hl;obtain⟨u,us,rfl,h2,h3⟩:=hl;obtain⟨⟨h4,h5⟩,h6⟩:=Gay h1 h3;refine⟨⟨by simpa using h4,fun i v d hv hd=>?_⟩,by simp[h6]⟩
  cases i with
  | zero =>
   simp only[Rb2,Sbk,Rbv]at hv hd;subst hv hd;simpa[aB] using h2
  | succ i =>
   simp only[Sbk,Sb4]at hv hd;exact h5 i v d hv hd
theorem Ea8 (hR:R E.ntmps F σ ρ a w G)(hd:eU E.ntmps o){nv:Nat}{p:aN}{xs:List aJ}{neg:Bool}{op:BinOp}{t ty:TypeId}{x y:Operand}
  (ho:o.op=.binOp op t x y ty) (kr:op=if neg then .neq else .eql) {res:bM}
  (h:(RdM.ret ⟨[.prim p xs 1]++(bif neg then [.prim .not [.v nv] 1] else []),match o.dst with|some d=>[(kT d,aP.slot none (mkS g (.v (bif neg then nv+1 else nv))))]|none=>[]⟩:RdM bM).eval σ=some res)
  (hs:aK cf ρ g nv res.lets)
  (hv:gOn ρ g=true->∀ d,p.run (xs.map (·.val ρ))=some [d]->∃ b,d=.bool b/\(eqGuard op t x y (a.eval x) (a.eval y)).run P w=.ok () w /\
   (binOp op t (a.eval x) (a.eval y)).run P w=.ok (.bool (if neg then !b else b)) w):fZ P E F σ ρ a w g o Q res.upd:=by
 simp only[aC,Rbv]at h;subst h;simp only[Daj]
 cases neg with
 | false =>
  simp only[cond_false,Sbu]at hs ⊢;refine⟨fun hg=>?_,fun hg=>Db6 hR hd hg (Ea0 hs hg)⟩;obtain⟨d,h1,h2⟩:=fI hs hg;obtain⟨b,rfl,h3,h4⟩:=hv hg d h1;refine Jau hR hd hg (v:=.bool b) ?_ (by rw[h2];exact .bool _);unfold execOp;simp only[ho];refine fF ?_;rw[Sem.run_bind,h3];exact h4
 | true =>
  simp only[cond_true]at hs ⊢;have mn:aK cf ρ g nv [.prim p xs 1]:=⟨hs.1,trivial⟩;have jo:aK cf ρ g (nv+1) [.prim .not [.v nv] 1]:=⟨hs.2.1,trivial⟩;refine⟨fun hg=>?_,fun hg=>Db6 hR hd hg (Ea0 jo hg)⟩;obtain⟨d,h1,h2⟩:=fI mn hg;obtain⟨e,h5,h6⟩:=fI jo hg;obtain⟨b,rfl,h3,h4⟩:=hv hg d h1;simp only[Sbk,Sbw,h2,aN.run,Rbv,Tbj,and_true]at h5;subst h5;refine Jau hR hd hg (v:=.bool (!b)) ?_ (by rw[h6];exact .bool _);unfold execOp;simp only[ho];refine fF ?_;rw[Sem.run_bind,h3];exact h4
theorem zL {neg:Bool}{op:BinOp}(kr:op=if neg then .neq else .eql){t:TypeId}{x y:Value}{b:Bool}(h:(Op.equal t x y).run P w=.ok b w)
  (hx:∀ k n,x≠.int k n) (hs:∀ s,x≠.string s) (hf:∀ k b,x≠.float k b) (hc:∀ k r i,x≠.complex k r i):(binOp op t x y).run P w=.ok (.bool (if neg then !b else b)) w:=by
 cases neg with
 | false =>
  simp only[Sbb,if_false]at kr;subst kr;unfold binOp
  cases x<;>first
   |exact absurd rfl (hx _ _)
   |exact absurd rfl (hs _)
   |exact absurd rfl (hf _ _)
   |exact absurd rfl (hc _ _ _)
   |(cases y<;>simp[h])
 | true =>
  simp only[if_true]at kr;subst kr;unfold binOp
  cases x<;>first
   |exact absurd rfl (hx _ _)
   |exact absurd rfl (hs _)
   |exact absurd rfl (hf _ _)
   |exact absurd rfl (hc _ _ _)
   |(cases y<;>simp[h])
theorem mK {op:BinOp}{t:TypeId}{x y:Operand}{u v:Value}(h1:u≠.nilIface)(h2:(∀ c,u≠.agg c)\/P.eqGuardType P.depth t=false):(eqGuard op t x y u v).run P w=.ok () w:=by
 unfold eqGuard
 rcases h2 with h2|h2
 ·cases op<;>cases u<;>cases v<;>first|rfl|exact absurd rfl h1|exact absurd rfl (h2 _)
 ·cases op<;>cases u<;>cases v<;>first|rfl|exact absurd rfl h1|simp[h2]
theorem Bb7 {t:TypeId}{i:TI}{info:TypeInfo}{u:TypeDesc}(f:bY P t i info u)(h:i.isBool=true):u=.bool:=by
 have:Pas u=true:=by rw[<- h,f.eq];rfl
 unfold Pas at this;split at this
 ·rfl
 ·cases this
theorem Db4 {t:TypeId}{i:TI}{info:TypeInfo}{u:TypeDesc}(f:bY P t i info u)(h:i.isPtr=true):∃ e,u=.pointer e:=by
 have:Wam u=true:=by rw[<- h,f.eq];rfl
 unfold Wam at this;split at this
 ·exact⟨_,rfl⟩
 ·cases this
theorem Vaz {neg:Bool}{op:BinOp}(h:op=if neg then .neq else .eql):(bif neg then BinOp.neq else .eql)=op:=by cases neg<;>simp[h]
theorem Jaw {t:TypeId}{ti:TI}{info:TypeInfo}{u:TypeDesc}(f:bY P t ti info u)(tn:ti.cmp=true){xs ys:List Value}{dx dy:List D}{b:Bool}(hx:Scs xs dx)(hy:Scs ys dy)
  (vq:xs.length=ti.size) (hly:ys.length=ti.size) (h:Oam (ti.cells.map Dae) dx dy=some b) :
  (Op.equal t (.agg xs.toArray) (.agg ys.toArray)).run P w=.ok b w/\P.eqGuardType P.depth t=false:=by
 have hc:ti.cmp=(Ham u&&Ka3 P 12 t&&!(P.eqGuardType P.depth t)):=by rw[f.eq];rfl
 rw[hc]at tn;simp only[Rbu,Sbl]at tn;obtain⟨⟨mL,rh⟩,yn⟩:=tn;have ie:=f.cells;simp only[Sbc]at ie;obtain⟨l,ka,lf⟩:=ie;have hlen:=f.len;rw[<- lf]at hlen h;simp only[Sbr]at hlen;rw[List.map_map]at h
 have cj:∃ fs,u=.struct fs:=by
  have hu:=f.und;simp only[Ka3,hu]at rh;cases u<;>first|(cases mL;done)|(cases rh;done)|exact⟨_,rfl⟩
 obtain⟨fs,rfl⟩:=cj;refine⟨?_,yn⟩;exact Fa9 P w 12 t l rh ka xs ys dx dy b _ _ hx hy (by omega) (by omega) (by unfold oV;rw[f.und]) (by unfold oV;rw[f.und]) h 10000 (by omega)
theorem Xag {t:TypeId}(hu:P.underlying t=some .bool)(b c:Bool)(n:Nat):(Op.equalIn (n+1) t (.bool b) (.bool c)).run P w=.ok (b==c) w:=by
 simp[Op.equalIn,run_underlying hu]
theorem Bbj {t e:TypeId}(hu:P.underlying t=some (.slice e))(x y p q:Nat)(n:Nat):(Op.equalIn (n+1) t (.slice none x y) (.slice none p q)).run P w=.ok true w:=by
 simp[Op.equalIn,run_underlying hu]
theorem Xaf {t e:TypeId}(hu:P.underlying t=some (.slice e))(a:Addr)(x y p q:Nat)(n:Nat):(Op.equalIn (n+1) t (.slice (some a) x y) (.slice none p q)).run P w=.ok false w:=by
 simp[Op.equalIn,run_underlying hu]
theorem Bbi {t e:TypeId}(hu:P.underlying t=some (.pointer e))(A:Option Addr)(n:Nat):(Op.equalIn (n+1) t (.pointer A) (.pointer none)).run P w=.ok A.isNone w:=by
 cases A<;>simp[Op.equalIn,run_underlying hu]
theorem Qa2 (hR:R E.ntmps F σ ρ a w G)(hd:eU E.ntmps o)(hti:tQ P E.ti){nv:Nat}{neg:Bool}{op:BinOp}{t ty:TypeId}{x y:Operand}
  (ho:o.op=.binOp op t x y ty) (kr:op=if neg then .neq else .eql) {res:bM}
  (h:(Lba E nv o g neg t x y).eval σ=some res) (hs:aK cf ρ g nv res.lets):fZ P E F σ ρ a w g o Q res.upd:=by
 unfold Lba at h;simp only[aA,Rbt]at h;obtain⟨va,h1,vb,h2,h3⟩:=h;split at h3
 ·
  rename_i ls ms;simp only[aA,Rbt,tiR,aV]at h3;obtain⟨ti,hi,h4⟩:=h3;obtain⟨info,u,f⟩:=aX (hti.ok _ _ hi);split at h4
  ·rename_i xs ys tu y2
   simp only[aA,Rbt,aI]at h4;obtain⟨_,h5,h6⟩:=h4;split at h5
   ·rename_i hb
    simp only[Rbu,Sbq]at hb;obtain⟨⟨tn,vq⟩,hly⟩:=hb;refine Ea8 hR hd ho kr h6 hs fun hg d hp=>?_
    obtain⟨vx,ex,a4h⟩:=fJ hR hg h1;obtain⟨vy,ey,a5q⟩:=fJ hR hg h2;obtain⟨p6,qq⟩:=Gay tu a4h;obtain⟨hy1,hy2⟩:=Gay y2 a5q;have gf:(ti.cells.map Dae).length=xs.length:=by rw[Sbr,f.len];omega
    simp only[aN.run,gf,Ubg,Sbr,Sbc,Tbj,and_true]at hp;obtain⟨b,hp,rfl⟩:=hp;rw[List.take_left' (by simp),List.drop_left' (by simp)]at hp;have a4x:=p6.1;have a5a:=hy1.1;simp only[Sbr]at a4x a5a;obtain⟨h7,h8⟩:=Jaw (w:=w) f tn p6 hy1 (by omega) (by omega) hp;refine⟨b,rfl,?_,?_⟩
    ·rw[ex];exact mK (by simp) (.inr h8)
    ·rw[ex,ey];exact zL kr h7 (by simp) (by simp) (by simp) (by simp)
   ·cases h5
  ·cases h4
 ·rename_i l m
  simp only[aA,Rbt,tiR,aV]at h3;obtain⟨ti,hi,h4⟩:=h3;obtain⟨info,u,f⟩:=aX (hti.ok _ _ hi);split at h4
  ·
   rename_i p q hp hq;rw[gG]at h4;have hx:gOn ρ g=true->Sc (a.eval x) (p.val ρ):=fun hg=>jD hg hp (fJ hR hg h1)
   have hy:gOn ρ g=true->Sc (a.eval y) (q.val ρ):=fun hg=>jD hg hq (fJ hR hg h2)
   split at h4
   ·rename_i a0x
    obtain rfl:=Bb7 f a0x;refine dB hR hd h4 hs fun hg d p5=>?_
    have hx:=hx hg;have hy:=hy hg;simp only[Sbk,Sbw]at p5;generalize p.val ρ=pv at hx p5;generalize q.val ρ=qv at hy p5;cases pv<;>cases qv<;>simp only[aN.run]at p5<;>first|(cases p5;done)|skip
    rename_i b c;simp only[Rbv,Tbj,and_true]at p5;subst p5;refine⟨.bool (if neg then !(b==c) else b==c),.bool _,?_⟩;unfold execOp;simp only[ho,hx.bool_inv,hy.bool_inv];refine fF ?_;rw[Sem.run_bind,mK (by simp) (.inl (by simp))]
    have he:(Op.equal t (.bool b) (.bool c)).run P w=.ok (b==c) w:=by
     unfold Op.equal Op.maxDepth;exact Xag f.und b c 9999
    exact zL kr he (by simp) (by simp) (by simp) (by simp)
   ·rw[Vaz kr]at h4
    exact La2 hR hd ho hx hy h4 hs
  ·rw[gG]at h4
   split at h4
   ·
    rename_i fR;simp only[aA,Rbt,aI]at h4;obtain⟨_,h5,s,h6,r0,h8,h7⟩:=h4;split at h5
    ·rename_i zy
     obtain⟨e,rfl⟩:=Gac f zy
     have wo:aK cf ρ g nv r0.lets->(gOn ρ g=true->∀ z,s.x.val ρ=.rows z []->s.nie=true)->fZ P E F σ ρ a w g o Q r0.upd:=by
      intro hs dk;refine Ea8 hR hd ho kr h8 hs fun hg d hp=>?_
      have ir:=dN hR h6 (fJ hR hg h1);simp only[Sbk,Sbw]at hp;have jk:=ir.rd;have tG:∀ z,s.x.val ρ=.rows z []->a.eval x=.slice none 0 0:=fun z hz=>ir.nie (dk hg z hz) z hz
      generalize s.x.val ρ=sv at hp jk tG;cases sv<;>simp only[aN.run]at hp<;>first|(cases hp;done)|skip
      rename_i sz rs;simp only[Rbv,Tbj,and_true]at hp;subst hp;obtain⟨A,b,n,c,vs,e1,e2,e3,e4,-⟩:=jk.inv
      have hy:∃ n' c',a.eval y=.slice none n' c':=by
       unfold Iax at fR;split at fR
       ·rename_i n' c';exact⟨n',c',rfl⟩
       ·cases fR
      obtain⟨n',c',hy⟩:=hy;refine⟨rs.isEmpty,rfl,?_,?_⟩
      ·rw[e1];exact mK (by simp) (.inl (by simp))
      ·have he:(Op.equal t (a.eval x) (a.eval y)).run P w=.ok rs.isEmpty w:=by
        unfold Op.equal Op.maxDepth
        cases yW:rs with
        | nil =>
         rw[tG sz (by rw[yW]),hy];exact Bbj f.und _ _ _ _ 9999
        | cons r rs' =>
         have:A=some b:=e4.resolve_left (by rw[<- e2,yW];simp);rw[e1,hy,this];exact Xaf f.und _ _ _ _ _ 9999
       rw[e1]at he ⊢;exact zL kr he (by simp) (by simp) (by simp) (by simp)
     simp only[aC,Rbv]at h7;subst h7
     cases hnie:s.nie with
     | true =>
      rw[hnie]at hs;exact wo hs fun _ _ _=>hnie
     | false =>
      rw[hnie]at hs;refine wo hs.2 fun hg z hz=>?_
      obtain⟨ds,h9,-⟩:=hs.1.1 hg;simp only[Sbk,Sbw]at h9;rw[hz]at h9;simp[aN.run]at h9
    ·cases h5
   ·rw[gG]at h4
    split at h4
    ·
     rename_i fR;simp only[aA,Rbt,aI]at h4;obtain⟨_,h5,h6⟩:=h4;split at h5
     ·rename_i hpt
      obtain⟨e,rfl⟩:=Db4 f hpt
      have hy:a.eval y=.pointer none:=by
       unfold Rap at fR;split at fR
       ·rfl
       ·cases fR
      have heq:∀ A,a.eval x=.pointer A->(Op.equal t (a.eval x) (a.eval y)).run P w=.ok A.isNone w:=by
       intro A hA;unfold Op.equal Op.maxDepth;rw[hA,hy];exact Bbi f.und A 9999
      have cr:∀ A,a.eval x=.pointer A->(eqGuard op t x y (a.eval x) (a.eval y)).run P w=.ok () w/\(binOp op t (a.eval x) (a.eval y)).run P w=.ok (.bool (if neg then !A.isNone else A.isNone)) w:=by
       intro A hA;refine⟨by rw[hA];exact mK (by simp) (.inl (by simp)),?_⟩;have:=heq A hA;rw[hA]at this ⊢;exact zL kr this (by simp) (by simp) (by simp) (by simp)
      have hconst:∀ (c:Bool) (nvx:Nat),(rM o g nv .id [.c (.bool c)]).eval σ=some res->(gOn ρ g=true->∃ A,a.eval x=.pointer A/\c=(if neg then !A.isNone else A.isNone))->fZ P E F σ ρ a w g o Q res.upd:=by
       intro c _ h7 hc;refine dB hR hd h7 hs fun hg d hp=>?_
       simp only[Sbk,Sbw,aJ.val,aN.run,Rbv,Tbj,and_true]at hp;subst hp;obtain⟨A,hA,rfl⟩:=hc hg;refine⟨_,.bool _,?_⟩;unfold execOp;simp only[ho];refine fF ?_;rw[Sem.run_bind,(cr A hA).1];exact (cr A hA).2
      split at h6
      ·rename_i deps sz z
       simp only[aA,Rbt]at h6;obtain⟨ds,h7,h8⟩:=h6;refine Ea8 hR hd ho kr h8 hs fun hg d hp=>?_
       have hl:=fJ hR hg h1;simp only[bV,aB]at hl;simp only[Sbk,Sbw]at hp
       rcases hl.2 (iH h7).1 with ⟨e1,z',e2⟩|⟨b,row,e1,e2,-⟩
       ·rw[e2]at hp
        simp only[aN.run,List.isEmpty_nil,Rbv,Tbj,and_true]at hp;exact⟨true,hp.symm,cr none e1⟩
       ·rw[e2]at hp
        simp only[aN.run,List.isEmpty_cons,Rbv,Tbj,and_true]at hp;exact⟨false,hp.symm,cr (some b) e1⟩
      ·refine hconst _ 0 h6 fun hg=>?_
       have hl:=fJ hR hg h1;simp only[bV,aB]at hl;exact⟨none,hl,by cases neg<;>rfl⟩
      ·refine hconst _ 0 h6 fun hg=>?_
       have hl:=fJ hR hg h1;simp only[bV,aB]at hl;exact⟨_,hl.1,by cases neg<;>rfl⟩
      ·refine hconst _ 0 h6 fun hg=>?_
       have hl:=fJ hR hg h1;simp only[bV,aB]at hl;obtain⟨_,_,_,_,_,_,_,_,_,e⟩:=hl;exact⟨_,e,by cases neg<;>rfl⟩
      ·cases h6
     ·cases h5
    ·cases h4
 ·cases h3
end
section
variable {P:Program} {E:Env} {F:bE} {σ:Nat->Option aP} {ρ:List D} {a:Act} {w w':World} {G:Gh} {g:Option (aJ×Bool)} {o:Oper} {cf:Nat->List D->Option (List D)} {Q:Exit->Act->World->Prop} {next:Act->World->Prop}
theorem jK {t:TypeId}{i:TI}{info:TypeInfo}{u:TypeDesc}(f:bY P t i info u)(b:Addr)(cs:List Value)(hl:cs.length=i.size)
  (h:∀ j v,cs[j]?=some v->w.cell? (b.add j)=some v) {v:Value} (hv:if i.agg=true then v=.agg cs.toArray else cs=[v]):(loadVar t b).run P w=.ok v w:=by
 unfold loadVar;rw[Sem.run_bind,f.isAgg];simp only[Result.andThen_ok];split at hv
 ·rename_i mL
  rw[if_pos mL,Sem.run_bind,f.sizeOf];simp only[Result.andThen_ok];rw[Sem.run_bind,<- hl,run_loadCells_list w b cs h];simp only[Result.andThen_ok,Sem.run_pure,hv]
 ·rename_i mL
  rw[if_neg mL,run_load];have:=h 0 v (by rw[hv];rfl);simp only[Addr.add,if_true]at this;rw[this]
theorem kJ (b:Addr):∀ (ls:List aO) (k:Nat),(∀ j l,ls[j]?=some l->∃ v,w.cell? (b.add (k+j))=some v/\aB σ ρ G w l v) ->
  ∃ vs,aG σ ρ G w ls vs/\∀ j v,vs[j]?=some v->w.cell? (b.add (k+j))=some v
 |[],k,_=>⟨[],by simp[aG],by simp⟩
 | l :: ls, k, h => by
  obtain⟨u,h1,h2⟩:=h 0 l rfl
  obtain⟨us,h3,h4⟩:=kJ b ls (k+1) fun j l' hj=>by
   have:=h (j+1) l' (by simpa using hj);rwa[show k+1+j=k+(j+1) by omega]
  refine⟨u::us,by simp only[aG];exact⟨u,us,rfl,h2,h3⟩,fun j v hj=>?_⟩
  cases j with
  | zero =>
   simp only[Rb2,Rbv]at hj;exact hj▸h1
  | succ j =>
   have:=h4 j v (by simpa using hj);rwa[show k+(j+1)=k+1+j by omega]
theorem wW.snoc {own:Nat->Ow}{r k:Nat}{c:Addr}{n m:Nat}{u':Value}:∀ (p q:List Nat) (v:Value),wW own w r q v p (.slice (some c) n m)->own c.block=.slc r (q++p)->w.cell? (c.add k)=some u'->wW own w r q v (p++[k]) u'
 | [], q, v, h, ho, hc => by
  simp only[wW]at h;simp only[List.nil_append,wW];exact⟨c,n,m,u',h.symm,by simpa using ho,hc,rfl⟩
 | j :: p, q, v, h, ho, hc => by
  obtain⟨a',n',c',u1,rfl,h1,h2,h3⟩:=h;simp only[Tb6,wW];exact⟨a',n',c',u1,rfl,h1,h2,wW.snoc p (q++[j]) u1 h3 (by simpa using ho) hc⟩
theorem Rd.sc_inv {ok:Nat->Prop}{v:Value}{d:D}(h:Rd ok w v d)(hd:d.isSc=true):Sc v d:=by
 cases h with
 |sc h=>exact h
 |hole=>simp[D.isSc]at hd
 |rows=>simp[D.isSc]at hd
theorem Rp.zero {own:Nat->Ow}{r:Nat}{p:List Nat}{v:Value}{d:D}(h:Rp own w r p 0 v d):Rd (fun b=>own b=.frz) w v d:=by
 generalize hm:0=m at h
 cases h with
 |sc h=>exact .sc h
 |hole _ h1=>exact .hole _ h1
 |fz h=>exact h
 |sl=>omega
theorem Xa4 {s:SlR}{c:Addr}{n cap:Nat}(h:Uaf σ ρ G w s (.slice (some c) n cap)){sz:Nat}{rs:List (List D)}(hx:s.x.val ρ=.rows sz rs){i:aJ}{k:IntKind}{iv:Int}(hi:i.val ρ=.int k iv)
  {row:List D} (hr:rs[iv.toNat]?=some row) {off:Nat} {d:D} (hd:row[off]?=some d) (ck:CK) (hk:Ebd ck=true->d.isSc=true) {y:aJ} (hy:y.val ρ=d) :
  ∃ v,w.cell? (c.add (iv.toNat*sz+off))=some v/\aB σ ρ G w (iX s i sz off ck y) v:=by
 have jk:=h.rd;rw[hx]at jk;obtain⟨A,c',n',jl,vs,e1,e2,e3,e4,e5,e6,e7⟩:=jk.inv;obtain⟨rfl,rfl,rfl⟩:some c=A/\n=n'/\cap=jl:=by injection e1 with a b c;exact⟨a,b,c⟩
 have aw:iv.toNat<rs.length:=by
  rcases Sbh iv.toNat rs.length with h|h
  ·exact h
  ·rw[Tb4 h]at hr;cases hr
 have hc:c=c':=by
  rcases e4 with e4|e4
  ·omega
  ·exact Sbs e4
 subst hc;obtain⟨-,cu⟩:=e6 _ _ hr _ _ hd;have cL:=e7 _ _ hr _ _ hd;refine⟨_,cu,?_⟩
 cases ck with
 | sc z =>
  simp only[iX,aB];rw[hy];exact cL.sc_inv (hk rfl)
 |pn=>simpa only[iX,aB] using cL.one
 |ot=>simpa only[iX,aB] using cL.one
 | sl z =>
  have hex:∀ z∈s.deps,iL σ z.1 z.2:=fun z hz=>by
   obtain⟨m,hl⟩:=h.live z hz;exact hl.valid.known
  have a3t:aB σ ρ G w (.sn s.deps .no false y) (vs iv.toNat off):=by
   simp only[aB];exact⟨⟨cL.one,hex⟩,fun _=>⟨by rw[hy];exact cL,by simp,trivial⟩⟩
  simp only[iX];have bz:=h.own;unfold tJ at bz;split
  ·rename_i r k' m p ho
   rw[ho]at bz;obtain⟨h1,h2,h3,h4,h5⟩:=bz;rw[hx]at h4
   cases hm:m-p.length with
   | zero =>
    have:Nat.ble (p.length+2) m=false:=by
     cases hb:Nat.ble (p.length+2) m with
     |false=>rfl
     |true=>simp only[Tbc]at hb;omega
    rw[this,cond_false];rw[hm]at h4;obtain⟨A',c'',n'',vA,tP,e1',e2',e3',rq,e5',e6',e7'⟩:=h4.zero.inv;obtain⟨rfl,rfl,rfl⟩:some c=A'/\n=n''/\cap=vA:=by injection e1' with a b c;exact⟨a,b,c⟩
    have hc:c=c'':=by
     rcases rq with rq|rq
     ·omega
     ·exact Sbs rq
    subst hc;obtain⟨-,ji⟩:=e6' _ _ hr _ _ hd;rw[cu]at ji;simp only[aB];refine⟨⟨cL.one,by simp⟩,fun _=>⟨?_,by simp,trivial⟩⟩;rw[hy,Sbs ji];exact (e7' _ _ hr _ _ hd).mono fun b hb=>⟨.inl hb,rfl⟩
   | succ m' =>
    rw[hm]at h4
    cases h4 with
    |sc h=>cases h
    | sl A' c'' n'' vA _ _ tP e2' e3' rq e5' e6' e7' e8' =>
     have hc:c=c'':=by
      rcases rq with rq|⟨rq,-⟩
      ·exact Sbs rq
      ·cases rq
     subst hc;obtain⟨-,mc,-⟩:=e6' rfl;have ji:=e7' _ _ hr _ _ hd;have te:=e8' _ _ hr _ _ hd;rw[cu]at ji;rw[<- Sbs ji]at te
     cases hb:Nat.ble (p.length+2) m with
     | false =>
      rw[cond_false]
      have:m'=0:=by
       have:¬ p.length+2<=m:=by rw[<- Tbc,hb];simp
       omega
      subst this;simp only[aB];refine⟨⟨cL.one,by simp⟩,fun _=>⟨?_,by simp,trivial⟩⟩;rw[hy];exact te.zero.mono fun b hb=>⟨.inl hb,rfl⟩
     | true =>
      rw[cond_true];simp only[Tbc]at hb
      have zm:bA ρ (p++[(i,sz,off)])=bA ρ p++[iv.toNat*sz+off]:=by
       simp[bA,jY,hi]
      simp only[aB];refine⟨⟨cL.one,fun z hz=>?_⟩,fun _=>⟨?_,by simp,?_⟩⟩
      ·simp only[Rby]at hz
       subst hz;exact h2.valid.known
      ·rw[hy]
       rw[h1]at cL;exact cL
      ·simp only[Baf]
       intro r2 k2 m2 e2 lf;obtain⟨rfl,rfl⟩:r=r2/\k'=k2:=by simpa using e2
       obtain⟨x1,ex1⟩:=h2;obtain⟨x2,uf⟩:=lf;rw[ex1]at uf;obtain rfl:m=m2:=by injection uf with uf;injection uf
       refine⟨by simp;omega,?_,?_⟩
       ·rw[zm,hy,show m-(p++[(i,sz,off)]).length=m' by simp;omega]
        exact te
       ·rw[zm]
        exact h5.snoc _ _ _ (by simpa using mc) cu
  ·exact a3t
theorem Far:∀ {ks:List Bool} {ds:List D},Ba0 ks ds=true->∀ (j:Nat) (d:D),ks[j]?=some true->ds[j]?=some d->d.isSc=true
 |[],ds,_,j,d,hk,_=>by simp at hk
 |k::ks,[],h,j,d,hk,hd=>by simp at hd
 | k :: ks, e :: ds, h, j, d, hk, hd => by
  simp only[Ba0,Rbu,Tbk,Sbl]at h
  cases j with
  | zero =>
   simp only[Rb2,Rbv]at hk hd;subst hk hd;simpa using h.1
  |succ j=>exact Far h.2 j d (by simpa using hk) (by simpa using hd)
theorem Bar {t:TypeId}{b:Addr}{v:Value}(h:(loadVar t b).run P w=.ok v w):(Instr.loadAt t (.pointer (some b))).run P w=.ok v w:=by
 simp only[Instr.loadAt,Instr.sureAddr,Sem.run_bind,Sem.run_pure,Result.andThen_ok,h]
theorem vH (s:SlR)(i:aJ)(sz:Nat):∀ (cs:List CK) (off y j:Nat) (l:aO),(dZ s i sz off cs y)[j]?=some l->∃ c,cs[j]?=some c/\l=iX s i sz (off+j) c (.v (y+j))
 |[],off,y,j,l,h=>by simp[dZ]at h
 | c :: cs, off, y, j, l, h => by
  simp only[dZ]at h
  cases j with
  | zero =>
   simp only[Rb2,Rbv]at h;exact⟨c,rfl,h.symm⟩
  | succ j =>
   obtain⟨c',h1,h2⟩:=vH s i sz cs (off+1) (y+1) j l (by simpa using h);exact⟨c',by simpa using h1,by rw[h2];congr 1<;>first|omega|(congr 1;omega)⟩
theorem vG (s:SlR)(i:aJ)(sz:Nat):∀ (cs:List CK) (off y:Nat),(dZ s i sz off cs y).length=cs.length
 |[],_,_=>rfl
 |c::cs,off,y=>by simp[dZ,vG s i sz cs (off+1) (y+1)]
theorem Bao {agg:Bool}{ls:List aO}{sv:SV}(h:Qaz agg ls=some sv){vs:List Value}(hl:vs.length=ls.length):∃ v,if agg=true then v=.agg vs.toArray else vs=[v]:=by
 cases agg with
 |true=>exact⟨_,rfl⟩
 | false =>
  simp only[Qaz,cond_false]at h;split at h
  ·match vs,hl with
   |[v],_=>exact⟨v,rfl⟩
  ·cases h
theorem Vab {sz off:Nat}{ks:List Bool}{x i:D}{ds:List D}(h:(aN.row sz off ks).run [x,i]=some ds) :
  ∃ rs k iv row,x=.rows sz rs/\i=.int k iv/\0<=iv/\rs[iv.toNat]?=some row/\off+ks.length<=row.length/\Ba0 ks (row.drop off)=true/\ds=(row.drop off).take ks.length:=by
 cases x<;>cases i<;>simp only[aN.run]at h<;>first|cases h|skip
 rename_i nx rs k iv;split at h
 ·rename_i h1
  obtain⟨rfl,h1⟩:=h1;split at h
  ·rename_i row hr
   split at h
   ·rename_i h2
    simp only[Rbv]at h;exact⟨rs,k,iv,row,rfl,rfl,h1,hr,h2.1,h2.2,h.symm⟩
   ·cases h
  ·cases h
 ·cases h
theorem Say (hR:R E.ntmps F σ ρ a w G)(hd:eU E.ntmps o)(hti:tQ P E.ti){nv:Nat}{t:TypeId}{x:Operand}(ho:o.op=.load t x){ti:TI}
  (hi:E.ti t=some ti) {p:aO} (hp:gOn ρ g=true->aB σ ρ G w p (a.eval x)) {res:bM}
  (h:(Qat nv o g ti p).eval σ=some res) (hs:aK cf ρ g nv res.lets):fZ P E F σ ρ a w g o Q res.upd:=by
 obtain⟨info,u,f⟩:=aX (hti.ok _ _ hi)
 have hex:∀ {v:Value},(Instr.loadAt t (a.eval x)).run P w=.ok v w->(execOp a.eval o).run P w=.ok (.value v) w:=by
  intro v hv;unfold execOp;simp only[ho];exact fF hv
 unfold Qat at h;split at h
 ·rename_i b off
  simp only[aA,aS,Rb1]at h;split at h
  ·rename_i ro bs hk
   simp only[aA,Rbt,aI]at h;obtain⟨_,gv,h⟩:=h;split at gv
   ·rename_i hle
    simp only[Tbc]at hle;split at h
    ·rename_i sv iq
     refine vY hR hd h hs fun hg=>?_
     have hl:=hp hg;simp only[aB]at hl;obtain⟨h1,h2,h3⟩:=hR.box hk
     obtain⟨vs,h4,h5⟩:=kJ (σ:=σ) (ρ:=ρ) (G:=G) (w:=w) ((G.bx b).add off) ((bs.drop off).take ti.size) 0 fun j l hj=>by
      rw[Sb0]at hj;split at hj
      ·rw[Sby]at hj
       obtain⟨v,h6,-,h7⟩:=h3 _ _ hj;refine⟨v,?_,h7⟩;rw[Sbo,add_add];exact h6
      ·cases hj
     have hlen:vs.length=ti.size:=by
      rw[h4.len];simp;omega
     obtain⟨v,hv⟩:=Bao iq h4.len;refine⟨v,qP iq h4 hv,hex ?_⟩;rw[hl.1];exact Bar (jK f _ vs hlen (fun j v hj=>by simpa using h5 j v hj) hv)
    ·cases h
   ·cases gv
  ·cases h
 ·rename_i l sz i off
  simp only[aA,Rbt]at h;obtain⟨s,ir,h⟩:=h
  have main:∀ (ks:List Bool) (ds:List D),(∀ (j:Nat) (c:CK),ti.cells[j]?=some c->Ebd c=true->ks[j]?=some true)->ks.length=ti.cells.length->gOn ρ g=true ->
    (aN.row sz off ks).run [s.x.val ρ,i.val ρ]=some ds->(∀ j d,ds[j]?=some d->(aJ.v (nv+j)).val ρ=d) ->
    ∃ vs,aG σ ρ G w (dZ s i sz off ti.cells nv) vs/\vs.length=ti.size/\∃ b,a.eval x=.pointer (some b)/\∀ j v,vs[j]?=some v->w.cell? (b.add j)=some v:=by
   intro ks ds hks pZ hg cr jn;have hl:=hp hg;simp only[aB]at hl;obtain⟨b,n,c,k,iv,h1,h2,h3,h4,h5⟩:=hl;have a4s:=dN hR ir h1;obtain⟨rs,k',iv',row,e1,e2,e3,e4,e5,e6,rfl⟩:=Vab cr;rw[h2]at e2;obtain⟨rfl,rfl⟩:k=k'/\iv=iv':=by injection e2 with a b;exact⟨a,b⟩
   obtain⟨vs,h6,h7⟩:=kJ (σ:=σ) (ρ:=ρ) (G:=G) (w:=w) (b.add (iv.toNat*sz+off)) (dZ s i sz off ti.cells nv) 0 fun j l' hj=>by
    obtain⟨c',ig,rfl⟩:=vH _ _ _ _ _ _ _ _ hj;have ni:j<ti.cells.length:=(Rbw.1 ig).1;have gq:row[off+j]?=some row[off+j]:=Rbz (by omega)
    obtain⟨v,tD,hv2⟩:=Xa4 a4s e1 h2 e4 (off:=off+j) (d:=row[off+j]) gq c' (fun kv=>Far e6 j _ (hks j c' ig kv) (by rw[Sby];exact gq)) (y:=.v (nv+j))
     (jn j _ (by rw[Sb0,if_pos (by omega),Sby];exact gq))
    refine⟨v,?_,hv2⟩;rw[add_add,Sbo,Sbf];exact tD
   exact⟨vs,h6,by rw[h6.len,vG,f.len],_,h5,fun j v hj=>by simpa using h7 j v hj⟩
  split at h
  ·rename_i x' iq
   have tz:x'=.v nv/\ti.agg=false/\∃ z,ti.cells=[.sc z]:=by
    unfold Qaz at iq
    cases mL:ti.agg with
    |true=>rw[mL]at iq;simp at iq
    | false =>
     rw[mL]at iq;simp only[cond_false]at iq
     cases hc:ti.cells with
     |nil=>rw[hc]at iq;simp[dZ]at iq
     | cons c cs =>
      cases cs with
      | nil =>
       rw[hc]at iq;simp only[dZ,Rbv,SV.one.injEq]at iq
       cases c with
       |sc z=>simp only[iX,aO.sc.injEq]at iq;exact⟨iq.symm,rfl,z,rfl⟩
       | sl z =>
        simp only[iX]at iq;split at iq
        ·cases hb:Nat.ble _ _<;>(rw[hb]at iq;cases iq)
        ·cases iq
       |pn=>simp[iX]at iq
       |ot=>simp[iX]at iq
      |cons c' oo=>rw[hc]at iq;simp[dZ]at iq
   obtain⟨rfl,mL,z,kO⟩:=tz
   have cj:aK cf ρ g nv [.prim (.row sz off [true]) [s.x,i] 1]:=by
    simp only[rM,aC,Rbv]at h;subst h;exact hs
   refine dB hR hd h hs fun hg d hpr=>?_
   obtain⟨d',h1,h2⟩:=fI cj hg;simp only[Sbk,Sbw]at hpr h1
   obtain⟨vs,h3,h4,b,h5,h6⟩:=main [true] [d'] (fun j c hc _=>by
    rw[kO]at hc
    cases j with
    |zero=>rfl
    | succ j => simp at hc) (by rw [kO]; rfl) hg h1 (fun j d hj => by
     cases j with
     |zero=>simp only[Rb2,Rbv]at hj;rw[<- hj];exact h2
     |succ j=>simp at hj)
   obtain⟨v,hv⟩:=Bao iq h3.len;have h7:=qP iq h3 hv;simp only[bV,aB]at h7;refine⟨v,?_,hex ?_⟩
   ·rw[h2]at h7
    rw[h1]at hpr;simp only[Rbv,Tbj,and_true]at hpr;exact hpr▸h7
   ·rw[h5]
    exact Bar (jK f b vs h4 h6 hv)
  ·rename_i sv _ iq
   refine dH hR hd h hs fun hg cj=>?_
   obtain⟨ds,h1,h2,h3⟩:=step1 cj hg;simp only[Sbk,Sbw]at h1;obtain⟨vs,h4,h5,b,h6,h7⟩:=main _ ds (fun j c hc kv=>by rw[Sbx,hc];simp[kv]) (by simp) hg h1 h3;obtain⟨v,hv⟩:=Bao iq h4.len;refine⟨v,qP iq h4 hv,hex ?_⟩;rw[h6];exact Bar (jK f b vs h5 h7 hv)
  ·cases h
 ·cases h
end
section
variable {P:Program} {E:Env} {F:bE} {σ:Nat->Option aP} {ρ:List D} {a:Act} {w w':World} {G:Gh} {g:Option (aJ×Bool)} {o:Oper} {cf:Nat->List D->Option (List D)} {Q:Exit->Act->World->Prop} {next:Act->World->Prop}
theorem Gap:∀ {rs:List (List D)} {l:List UInt8},bytesOf rs=some l->∃ ns:List Int,rs=ns.map (fun n=>[D.int .u8 n])/\l=ns.map fun n=>UInt8.ofNat n.toNat
 | [], l, h => by
  simp only[bytesOf,Rbv]at h;exact⟨[],rfl,h.symm⟩
 | r :: rs, l, h => by
  unfold bytesOf at h;split at h
  ·rename_i hh;cases hh
  ·rename_i n r' hh
   obtain⟨rfl,rfl⟩:=Vbp hh;simp only[Sbc]at h;obtain⟨l',h1,rfl⟩:=h;obtain⟨ns,rfl,rfl⟩:=Gap h1;exact⟨n::ns,rfl,rfl⟩
  ·cases h
theorem Sa0 (hR:R E.ntmps F σ ρ a w G)(hd:eU E.ntmps o)(hti:tQ P E.ti){nv:Nat}{src dst:TypeId}{x:Operand}(ho:o.op=.convert src dst x){res:bM}{s d ei:TI}{e:Nat}
  (mn:E.ti src=some s) (he:s.elem=some e) (s9:E.ti e=some ei) (hk:Lb2 ei.ik=true) (iS:E.ti dst=some d) (zg:d.isStr=true)
  {l:aO} {r:SlR} (h1:(rdL E g src x).eval σ=some l) (h2:(wB l).eval σ=some r)
  (h:(rM o g nv .bstr [r.x]).eval σ=some res) (hs:aK cf ρ g nv res.lets):fZ P E F σ ρ a w g o Q res.upd:=by
 refine dB hR hd h hs fun hg z hp=>?_
 obtain⟨i1,u1,f1⟩:=aX (hti.ok _ _ mn);obtain⟨i2,u2,f2⟩:=aX (hti.ok _ _ iS);obtain⟨i3,u3,f3⟩:=aX (hti.ok _ _ s9);obtain rfl:=oM f1 he;obtain rfl:=Bap f2 zg
 have e3:u3=.int .u8:=by
  unfold Lb2 at hk;split at hk
  ·rename_i k kk
   simp only[Lbh,decide_eq_true_eq]at hk;have:=f3.ik.symm.trans kk;unfold Lbd at this;split at this
   ·rw[Sbs this,hk]
   ·cases this
  ·cases hk
 subst e3;have hl:=(dN hR h2 (fA hR hg h1)).rd;simp only[Sbk,Sbw]at hp;generalize r.x.val ρ=xv at hp hl;cases xv<;>simp only[aN.run]at hp<;>first|cases hp|skip
 rename_i sz rs;simp only[Sbc,Tbj,and_true]at hp;obtain⟨bs,hb,rfl⟩:=hp;obtain⟨ns,rfl,rfl⟩:=Gap hb;obtain⟨A,b,n,c,vs,e1,e2,e3,e4,e5,e6,e7⟩:=hl.inv;refine⟨_,.str _,?_⟩;unfold execOp;simp only[ho];refine fF ?_;rw[e1,run_convert_bytes_string w src dst e A n c f1.und f3.und f2.und]
 cases A with
 | none =>
  have:n=0:=by
   rcases e4 with e4|e4
   ·exact e4
   ·cases e4
  subst this;simp only[Sbr]at e2;obtain rfl:=Tbm e2;simp[Conv.bytesToString];rfl
 | some b' =>
  have tj:(loadCells b' n).run P w=.ok (ns.map (Value.int .u8)).toArray w:=by
   simp only[Sbr]at e2
   have:=run_loadCells_list (P:=P) w b' (ns.map (Value.int .u8)) (fun j v hj=>by
    simp only[Sbx,Sbc]at hj;obtain⟨m,hm,rfl⟩:=hj;have hr:(ns.map fun n=>[D.int .u8 n])[j]?=some [D.int .u8 m]:=by rw[Sbx,hm];rfl
    have h9:=e6 j _ hr 0 _ rfl;have du:=(e7 j _ hr 0 _ rfl).sc_inv rfl
    have ef:sz=1:=by
     have:=e5 _ (Sba hr);simpa using this.symm
    have jf:j<ns.length:=(Rbw.1 hm).1
    have eJ:b'=b:=by
     rcases e4 with e4|e4
     ·omega
     ·exact Sbs e4
    subst eJ ef;rw[du.int_inv]at h9;simpa using h9.2)
   simpa[e2] using this
  rw[run_bytesToString w b' n c ns tj,foldl_push_bytes];simp[ByteArray.empty,ByteArray.emptyWithCapacity];rfl
theorem La0 (hR:R E.ntmps F σ ρ a w G)(hd:eU E.ntmps o)(hti:tQ P E.ti){nv:Nat}{src dst:TypeId}{x:Operand}(ho:o.op=.convert src dst x){res:bM}{s d:TI}
  (mn:E.ti src=some s) (hsS:s.isStr=true) (iS:E.ti dst=some d) (zg:d.isStr=true) {x':aJ} (h1:(rdA E g src x).eval σ=some x')
  (h:(rM o g nv .sid [x']).eval σ=some res) (hs:aK cf ρ g nv res.lets):fZ P E F σ ρ a w g o Q res.upd:=by
 refine dB hR hd h hs fun hg z hp=>?_
 obtain⟨i1,u1,f1⟩:=aX (hti.ok _ _ mn);obtain⟨i2,u2,f2⟩:=aX (hti.ok _ _ iS);obtain rfl:=Bap f1 hsS;obtain rfl:=Bap f2 zg;have hl:=iP hR hg h1;simp only[Sbk,Sbw]at hp;generalize x'.val ρ=xv at hp hl;cases xv<;>simp only[aN.run]at hp<;>first|cases hp|skip
 refine⟨_,.str _,?_⟩;unfold execOp;simp only[ho,hl.str_inv];refine fF ?_;simp only[convert,Sem.run_bind,run_underlying f1.und,run_underlying f2.und,Result.andThen_ok];rfl
theorem Iac {is:Bool}{len cap:Nat}{lo hi:Option Value}{kl kh:IntKind}{l h:Int}(nk:(lo=none/\l=0)\/lo=some (.int kl l))(rv:(hi=none/\h=len)\/(hi=some (.int kh h)/\h<=cap))(h0:0<=l)(h1:l<=h) :
  (Instr.sliceBounds is len cap lo hi none).run P w=.ok (l.toNat,h.toNat,cap) w:=by
 rcases rv with ⟨rfl,rfl⟩|⟨rfl,hc⟩<;>rcases nk with ⟨rfl,rfl⟩|rfl
 ·simp[Instr.sliceBounds]
 ·have e2:0<=l/\l<=(len:Int):=⟨h0,by omega⟩
  simp[Instr.sliceBounds,Instr.sliceBound,asIntOf,e2]
 ·have e1:0<=h/\h<=(cap:Int):=⟨by omega,hc⟩
  simp[Instr.sliceBounds,Instr.sliceBound,asIntOf,e1]
 ·have e1:0<=h/\h<=(cap:Int):=⟨by omega,hc⟩
  have e2:0<=l/\l<=(h.toNat:Int):=⟨h0,by omega⟩;have e3:0<=l/\l<=max h 0:=⟨h0,by omega⟩;simp[Instr.sliceBounds,Instr.sliceBound,asIntOf,e1,e2,e3]
theorem Sad {ei:TI}{lo fl:Bool}{s:SlR}{p:Pth}(h:Haq ei lo s=(p,fl)):(p=.no) \/
  (p=.view/\∃ r k m q,s.own=some (r,k,m,q)/\(q=.path []\/q=.view)/\(m=1\/lo=false\/fl=true)):=by
 unfold Haq at h
 have one:∀ m:Nat,(bif Nat.beq m 1||!lo then (Pth.view,false) else bif Lag ei.cells then (Pth.view,true) else (Pth.no,false))=(p,fl)->p=.no\/(p=.view/\(m=1\/lo=false\/fl=true)):=by
  intro m h
  cases hb:(Nat.beq m 1||!lo) with
  | true =>
   rw[hb]at h;simp only[cond_true,Sbj]at h;simp only[Tbk,Sbq,Sbl]at hb;exact .inr ⟨h.1.symm,hb.imp id .inl⟩
  | false =>
   rw[hb]at h
   cases hn:Lag ei.cells with
   | true =>
    rw[hn]at h;simp only[cond_false,cond_true,Sbj]at h;exact .inr ⟨h.1.symm,.inr (.inr h.2.symm)⟩
   | false =>
    rw[hn]at h;simp only[cond_false,Sbj]at h;exact .inl h.1.symm
 split at h
 ·rename_i r k m ho
  exact (one _ h).imp id fun ⟨h1,h2⟩=>⟨h1,_,_,_,_,ho,.inl rfl,h2⟩
 ·rename_i r k m ho
  exact (one _ h).imp id fun ⟨h1,h2⟩=>⟨h1,_,_,_,_,ho,.inr rfl,h2⟩
 ·simp only[Sbj]at h
  exact .inl h.1.symm
theorem Oa1 {sz:Nat}{fl:Bool}{x i j:D}{ds:List D}(h:(aN.sub sz fl).run [x,i,j]=some ds) :
  ∃ rs ki kj lo hi,x=.rows sz rs/\i=.int ki lo/\j=.int kj hi/\(fl=true->∀ r∈rs,∀ d∈r,d.isSc=true)/\0<=lo/\lo<=hi/\hi<=rs.length/\ds=[.rows sz ((rs.take hi.toNat).drop lo.toNat)]:=by
 cases x<;>cases i<;>cases j<;>simp only[aN.run]at h<;>first|cases h|skip
 split at h
 ·rename_i h1
  obtain⟨rfl,h1,h2,h3,h4⟩:=h1;simp only[Rbv]at h;refine⟨_,_,_,_,_,rfl,rfl,rfl,fun hf=>?_,h2,h3,h4,h.symm⟩;rw[hf]at h1;simp only[Bool.not_true,Bool.false_or,Sbp]at h1;exact fun r hr d hd=>h1 r hr d hd
 ·cases h
theorem Jar {rs:List (List D)}{lo hi i:Nat}{r:List D}(h:((rs.take hi).drop lo)[i]?=some r):rs[lo+i]?=some r/\lo+i<hi:=by
 rw[Sby,Sb0]at h;split at h
 ·rename_i hl;exact⟨h,hl⟩
 ·cases h
theorem Rd.part {ok:Nat->Prop}{A:Option Addr}{n c sz:Nat}{rs:List (List D)}(h:Rd ok w (.slice A n c) (.rows sz rs)){lo hi:Nat}(h1:lo<=hi)(h2:hi<=n) :
  Rd ok w (.slice (if c=lo then A else A.map (·.add (lo*sz))) (hi-lo) (c-lo)) (.rows sz ((rs.take hi).drop lo)):=by
 obtain⟨A',b,n',c',vs,e1,e2,e3,e4,e5,e6,e7⟩:=h.inv;obtain⟨rfl,rfl,rfl⟩:A=A'/\n=n'/\c=c':=by injection e1 with a b c;exact⟨a,b,c⟩
 refine .rows _ (b.add (lo*sz)) _ _ sz _ (fun i j=>vs (lo+i) j) (by simp;omega) (by omega) ?_ (fun r hr=>?_) (fun i r gy j d hj=>?_) (fun i r gy j d hj=>?_)
 ·by_cases hz:hi-lo=0
  ·exact .inl hz
  ·refine .inr ?_
   have hA:A=some b:=e4.resolve_left (by omega);rw[if_neg (by omega),hA];rfl
 ·exact e5 r (Ubh (Tbn hr))
 ·obtain⟨h3,h4⟩:=Jar gy
  obtain⟨h5,h6⟩:=e6 _ _ h3 _ _ hj;refine⟨by rw[add_block];exact h5,?_⟩;rw[add_add,show lo*sz+(i*sz+j)=(lo+i)*sz+j by rw[Nat.add_mul,Sbf]];exact h6
 ·obtain⟨h3,h4⟩:=Jar gy
  exact e7 _ _ h3 _ _ hj
theorem Rp.sc_inv {own:Nat->Ow}{r m:Nat}{p:List Nat}{v:Value}{d:D}(h:Rp own w r p m v d)(hd:d.isSc=true):Sc v d:=by
 cases h with
 |sc h=>exact h
 |hole=>simp[D.isSc]at hd
 |fz h=>exact h.sc_inv hd
 |sl=>simp[D.isSc]at hd
theorem Rp.part {own:Nat->Ow}{r m:Nat}{p:List Nat}{A:Option Addr}{n c sz:Nat}{rs:List (List D)}(h:Rp own w r p m (.slice A n c) (.rows sz rs)){lo hi:Nat}(h1:lo<=hi)(h2:hi<=n)
  (hc:m=1\/lo=0\/∀ r∈rs,∀ d∈r,d.isSc=true) :
  Rp own w r p m (.slice (if c=lo then A else A.map (·.add (lo*sz))) (hi-lo) (c-lo)) (.rows sz ((rs.take hi).drop lo)):=by
 generalize hv:Value.slice A n c=v at h;generalize hx:D.rows sz rs=x at h
 cases h with
 |sc h=>subst hx;cases h
 |hole=>cases hx
 |fz h=>subst hv hx;exact .fz (h.part h1 h2)
 | sl A' b n' c' nx rs' vs hn ig hA ef bz cu cL =>
  obtain⟨rfl,rfl,rfl⟩:A=A'/\n=n'/\c=c':=by injection hv with a b c;exact⟨a,b,c⟩
  obtain⟨rfl,rfl⟩:sz=nx/\rs=rs':=by injection hx with a b;exact⟨a,b⟩
  rename_i m';refine .sl _ (if c=lo then b else b.add (lo*sz)) _ _ sz _ (fun i j=>vs (lo+i) j) (by simp;omega) (by omega) ?_ (fun r hr=>?_) (fun e=>?_) (fun i r' gy j d hj=>?_) (fun i r' gy j d hj=>?_)
  ·rcases hA with hA|⟨hA,h0⟩
   ·refine .inl ?_
    rw[hA];by_cases h:c=lo
    ·rw[if_pos h,if_pos h]
    ·rw[if_neg h,if_neg h];rfl
   ·refine .inr ⟨?_,by omega⟩
    rw[hA];split<;>rfl
  ·exact ef r (Ubh (Tbn hr))
  ·have xj:A=some b:=by
    rcases hA with hA|⟨hA,h0⟩
    ·exact hA
    ·rw[hA]at e
     split at e<;>cases e
   obtain⟨h3,h4,h5⟩:=bz xj;by_cases h:c=lo
   ·rw[if_pos h]
    exact⟨h3,h4,fun k hk=>by rw[h,Nat.sub_self,Nat.zero_mul]at hk;omega⟩
   ·rw[if_neg h]
    refine⟨?_,by rw[add_block];exact h4,fun k hk=>?_⟩
    ·unfold Addr.add;split
     ·exact h3
     ·rfl
    ·rw[add_add]
     refine h5 _ ?_;rw[Nat.sub_mul]at hk;omega
  ·obtain⟨h3,h4⟩:=Jar gy
   rw[if_neg (by omega),add_add,show lo*sz+(i*sz+j)=(lo+i)*sz+j by rw[Nat.add_mul,Sbf]];exact cu _ _ h3 _ _ hj
  ·obtain⟨h3,h4⟩:=Jar gy
   have:=cL _ _ h3 _ _ hj
   rcases hc with hc|hc|hc
   ·obtain rfl:m'=0:=by omega
    exact .fz this.zero
   ·subst hc
    simpa using this
   ·exact .sc (this.sc_inv (hc r' (Sba h3) d (Sba hj)))
theorem uC {t e:TypeId}{x:Operand}{lo hi:Option Operand}(ho:o.op=.slice t x lo hi none)(hu:P.underlying t=some (.slice e)){size:Nat}(ef:(sizeOf e).run P w=.ok size w)
  {A:Option Addr} {n c:Nat} (hx:a.eval x=.slice A n c) {kl kh:IntKind} {l h:Int} (nk:(lo=none/\l=0)\/lo.map a.eval=some (.int kl l)) (rv:(hi=none/\h=n)\/(hi.map a.eval=some (.int kh h)/\h<=c)) (h0:0<=l) (h1:l<=h) :
  (execOp a.eval o).run P w=.ok (.value (.slice (if c=l.toNat then A else A.map (·.add (l.toNat*size))) (h.toNat-l.toNat) (c-l.toNat))) w:=by
 unfold execOp;simp only[ho];refine fF ?_;have hb:=Iac (P:=P) (w:=w) (is:=true) (len:=n) (cap:=c) (lo:=lo.map a.eval) (hi:=hi.map a.eval) (kl:=kl) (kh:=kh) (l:=l) (h:=h) (nk.imp (fun ⟨h1,h2⟩=>⟨by rw[h1];rfl,h2⟩) id) (rv.imp (fun ⟨h1,h2⟩=>⟨by rw[h1];rfl,h2⟩) id) h0 h1;simp only[Instr.sliceAt,Instr.slice,Sem.run_bind,run_underlying hu,Result.andThen_ok,hx,Option.map_none,hb,ef,Sem.run_pure]
end
section
variable {P:Program} {E:Env} {F:bE} {σ:Nat->Option aP} {ρ:List D} {a:Act} {w w':World} {G:Gh} {g:Option (aJ×Bool)} {o:Oper} {cf:Nat->List D->Option (List D)} {Q:Exit->Act->World->Prop} {next:Act->World->Prop}
theorem uL {g:Option (aJ×Bool)}(h:noG g=true):g=none:=by
 cases g with
 |none=>rfl
 |some _=>cases h
theorem zW {p:aN}{xs:List aJ}{nv:Nat}(h:Sab cf ρ g nv (.prim p xs 1))(hg:gOn ρ g=true) :
  ∃ d,p.run (xs.map (·.val ρ))=some [d]/\(aJ.v nv).val ρ=d:=fI (cf:=cf) (nv:=nv) ⟨h,trivial⟩ hg
theorem zJ {t:TypeId}{x:Operand}{lo hi:Option Operand}(ho:o.op=.slice t x lo hi none)(hu:P.underlying t=some .string)
  {s:List UInt8} (hx:a.eval x=.string ⟨s.toArray⟩) {kl kh:IntKind} {l h:Int} (nk:(lo=none/\l=0)\/lo.map a.eval=some (.int kl l)) (rv:(hi=none/\h=s.length)\/(hi.map a.eval=some (.int kh h)/\h<=s.length)) (h0:0<=l) (h1:l<=h) :
  (execOp a.eval o).run P w=.ok (.value (.string ⟨((s.take h.toNat).drop l.toNat).toArray⟩)) w:=by
 unfold execOp;simp only[ho];refine fF ?_;have hb:=Iac (P:=P) (w:=w) (is:=false) (len:=s.length) (cap:=s.length) (lo:=lo.map a.eval) (hi:=hi.map a.eval) (kl:=kl) (kh:=kh) (l:=l) (h:=h) (nk.imp (fun ⟨h1,h2⟩=>⟨by rw[h1];rfl,h2⟩) id) (rv.imp (fun ⟨h1,h2⟩=>⟨by rw[h1];rfl,h2⟩) id) h0 h1;have hlen:(⟨s.toArray⟩:ByteArray).size=s.length:=rfl;simp only[Instr.sliceAt,Instr.slice,Sem.run_bind,run_underlying hu,Result.andThen_ok,hx,Option.map_none,Option.isSome_none,Sbb,if_false,hlen,hb,Sem.run_pure];congr 2;apply ByteArray.ext;rw[ByteArray.data_extract];apply Vbo;simp[List.drop_take,List.extract]
theorem Qa1 {x i j:D}{ds:List D}(h:aN.ssub.run [x,i,j]=some ds) :
  ∃ s ki kj lo hi,x=.str s/\i=.int ki lo/\j=.int kj hi/\0<=lo/\lo<=hi/\hi<=s.length/\ds=[.str ((s.take hi.toNat).drop lo.toNat)]:=by
 cases x<;>cases i<;>cases j<;>simp only[aN.run]at h<;>first|cases h|skip
 split at h
 ·rename_i h1
  simp only[Rbv]at h;exact⟨_,_,_,_,_,rfl,rfl,rfl,h1.1,h1.2.1,h1.2.2,h.symm⟩
 ·cases h
theorem Raf {lo:Bool}{s:SlR}{ei:TI}{p:Pth}{fl:Bool}(v7:Haq ei lo s=(p,fl)){A:Option Addr}{n c sz:Nat}(ir:Uaf σ ρ G w s (.slice A n c)){rs:List (List D)}(hx:s.x.val ρ=.rows sz rs)
  {l h:Nat} (h1:l<=h) (h2:h<=n) (nk:lo=false->l=0) (ie:fl=true->∀ r∈rs,∀ d∈r,d.isSc=true) {y:aJ} (hy:y.val ρ=.rows sz ((rs.take h).drop l)) :
  aB σ ρ G w (.sn s.deps p false y) (.slice (if c=l then A else A.map (·.add (l*sz))) (h-l) (c-l)):=by
 simp only[aB];refine⟨⟨rfl,fun z hz=>?_⟩,fun _=>⟨?_,by simp,?_⟩⟩
 ·obtain⟨m,hl⟩:=ir.live z hz
  exact hl.valid.known
 ·rw[hy]
  exact Rd.part (hx▸ir.rd) h1 h2
 ·rcases Sad v7 with rfl|⟨rfl,r,k,m,q,ho,hq,hc⟩
  ·trivial
  ·intro r2 k2 m2 e2 lf
   have bz:=ir.own;unfold tJ at bz;rw[ho]at bz;obtain⟨h3,⟨x1,h4⟩,h5⟩:=bz;rw[h3]at e2;obtain⟨rfl,rfl⟩:r=r2/\k=k2:=by simpa using e2
   obtain⟨x2,uf⟩:=lf;rw[h4]at uf;obtain rfl:m=m2:=by injection uf with uf;injection uf
   have fX:Rp G.own w r [] m (.slice A n c) (.rows sz rs):=by
    rw[<- hx]
    rcases hq with rfl|rfl
    ·simpa[bA] using h5.2.1
    ·exact h5
   rw[hy];refine fX.part h1 h2 ?_
   rcases hc with hc|hc|hc
   ·exact .inl hc
   ·exact .inr (.inl (nk hc))
   ·exact .inr (.inr (ie hc))
theorem Vau {lo:Bool}{s:SlR}{ei:TI}{p:Pth}{fl:Bool}(v7:Haq ei lo s=(p,fl)){A:Option Addr}{n c sz:Nat}(ir:Uaf σ ρ G w s (.slice A n c)){rs:List (List D)}(hx:s.x.val ρ=.rows sz rs)
  {l:Nat} (h1:l<=n) (nk:lo=false->l=0) (ie:fl=true->∀ r∈rs,∀ d∈r,d.isSc=true) {y:aJ} (hy:y.val ρ=.rows sz ((rs.take n).drop l)) {lx:aJ} (hl:jY ρ lx=l) :
  aB σ ρ G w (.sn s.deps (Dbj p sz lx s) false y) (.slice (if c=l then A else A.map (·.add (l*sz))) (n-l) (c-l)):=by
 have h0:=Raf v7 ir hx h1 (Nat.le_refl n) nk ie hy;unfold Dbj;split
 ·rename_i r k m ho
  simp only[aB]at h0 ⊢;refine⟨h0.1,fun hv=>⟨(h0.2 hv).1,(h0.2 hv).2.1,?_⟩⟩;intro r2 k2 m2 e2 lf;have bz:=ir.own;unfold tJ at bz;rw[ho]at bz;obtain⟨h3,-,-,-,h5⟩:=bz;rw[h3]at e2;obtain⟨rfl,rfl⟩:r=r2/\k=k2:=by simpa using e2
  simp only[bA,Sbw,wW]at h5;exact⟨A,n,c,h5.symm,by rw[hl];exact h1,by rw[hl]⟩
 ·exact h0
theorem zS (hR:R E.ntmps F σ ρ a w G)(hg:gOn ρ g=true){lo:Option Operand}{y:aJ}
  (h:(match lo with|some a=>rdA E g 0 a|none=>RdM.ret (.c (.int .i64 0)):RdM aJ).eval σ=some y) {k:IntKind} {l:Int} (hy:y.val ρ=.int k l) :
  (lo=none/\l=0)\/lo.map a.eval=some (.int k l):=by
 split at h
 ·rename_i x
  have:=iP hR hg h;rw[hy]at this;exact .inr (by rw[Sb9,this.int_inv])
 ·simp only[aC,Rbv]at h
  subst h;simp only[aJ.val,D.int.injEq]at hy;exact .inl ⟨rfl,hy.2.symm⟩
theorem Oa4 (hR:R E.ntmps F σ ρ a w G)(hd:eU E.ntmps o)(hti:tQ P E.ti){nv nb nr:Nat}{mv e9:Bool}{t:TypeId}{x:Operand}{lo hi mx:Option Operand}(ho:o.op=.slice t x lo hi mx){res:bM}
  (h:(nZ E mv e9 nv nb nr g o).eval σ=some res) (hs:aK cf ρ g nv res.lets):fZ P E F σ ρ a w g o Q res.upd:=by
 simp only[nZ,ho]at h
 cases mx with
 | some _ =>
  simp only[aA,Rbt]at h;obtain⟨_,_,h⟩:=h;cases h
 |none =>
 simp only[aA,Rbt,tiR,aV]at h;obtain⟨ti,yc,l,h1,vf,h2,h⟩:=h;obtain⟨info,u,f⟩:=aX (hti.ok _ _ yc);split at h
 ·rename_i s
  simp only[aA,Rbt,aI]at h;obtain⟨_,gv,h⟩:=h;split at gv
  ·rename_i hb
   simp only[Rbu]at hb;obtain rfl:=Bap f hb.1;split at h
   ·rename_i h'
    simp only[aA,Rbt]at h;obtain⟨hA,h3,h⟩:=h;refine dB hR hd h hs fun hg d hp=>?_
    simp only[Sbk,Sbw]at hp;obtain⟨s',ki,kj,li,gy,e1,e2,e3,e4,e5,e6,e7⟩:=Qa1 hp;simp only[Tbj,and_true]at e7;have hx:=fA hR hg h1;simp only[aB,e1]at hx;have hh:=iP hR hg h3;rw[e3]at hh;refine⟨_,e7▸.str _,zJ ho f.und hx.str_inv (zS hR hg h2 e2) (.inr ⟨by rw[Sb9,hh.int_inv],e6⟩) e4 e5⟩
   ·obtain rfl:g=none:=uL (by simpa using hb.2)
    simp only[aC,Rbv]at h;subst h;simp only[Daj];refine⟨fun hg=>?_,fun hg=>by simp[gOn]at hg⟩;obtain⟨d1,h4,h5⟩:=zW hs.1 hg;obtain⟨d2,h6,h7⟩:=zW hs.2.1 hg;simp only[Sbk,Sbw,Step.n]at h4 h6 h7;obtain⟨s',ki,kj,li,gy,e1,e2,e3,e4,e5,e6,e7⟩:=Qa1 h6;rw[e1]at h4;simp only[aN.run,Rbv,Tbj,and_true]at h4;rw[h5,<- h4]at e3;obtain⟨-,rfl⟩:IntKind.i64=kj/\(s'.length:Int)=gy:=by injection e3 with a b;exact⟨a,b⟩
    have hx:=fA hR hg h1;simp only[aB,e1]at hx;refine Jau hR hd hg (zJ (kh:=.i64) ho f.und hx.str_inv (zS hR hg h2 e2) (.inl ⟨rfl,rfl⟩) e4 e5) ?_;rw[h7];simp only[Tbj,and_true]at e7;rw[e7];exact .str _
  ·cases gv
 ·simp only[aA,Rbt,aI]at h
  obtain⟨_,gv,s,h3,ei,h4,h⟩:=h;split at gv
  ·rename_i zy
   cases hel':ti.elem with
   |none=>rw[hel']at zy;cases zy
   |some e =>
   obtain rfl:=oM f hel';rw[hel',Option.getD_some,aV]at h4;obtain⟨jx,u',f'⟩:=aX (hti.ok _ _ h4);generalize v7:Haq ei lo.isSome s=pf at h;obtain⟨p,fl⟩:=pf;dsimp only at h;split at h
   ·rename_i h'
    simp only[aA,Rbt]at h;obtain⟨hA,h5,h⟩:=h;split at h
    ·rename_i dp pp z _
     refine dH hR hd h hs fun hg cj=>?_
     obtain⟨d,h6,h7⟩:=fI cj hg;simp only[Sbk,Sbw]at h6;obtain⟨rs,ki,kj,li,gy,e1,e2,e3,e4,e5,e6,e7,e8⟩:=Oa1 h6;have hl:=fA hR hg h1;have hh:=iP hR hg h5;rw[e3]at hh
     have hz:s.x=.c (.rows z []):=by
      unfold wB at h3;simp only[aA,Rbt]at h3;obtain⟨ds,-,h3⟩:=h3;split at h3
      ·simp only[aC,Rbv]at h3;rw[<- h3]
      ·simp only[aA,aS,Rb1]at h3
       split at h3
       ·simp only[aC,Rbv]at h3;rw[<- h3]
       ·cases h3
      ·simp only[aC,Rbv]at h3;rw[<- h3]
     have fR:a.eval x=.slice none 0 0:=by
      unfold wB at h3;simp only[aA,Rbt]at h3;obtain⟨ds,h3,-⟩:=h3;have ic:=hl;simp only[aB]at ic;exact (ic.2 (iH h3).1).2.1 trivial z rfl
     rw[hz]at e1
     obtain⟨-,rfl⟩:z=ei.size/\[]=rs:=by
      simp only[aJ.val]at e1
      injection e1 with a b;exact⟨a,b⟩
     have xm:li=0:=by simp at e7;omega
     have rv:gy=0:=by simp at e7;omega
     subst xm rv;refine⟨a.eval x,hl,?_⟩;rw[uC (kh:=kj) (kl:=ki) (l:=0) (h:=0) ho f.und (f'.sizeOf w) fR (zS hR hg h2 e2) (.inr ⟨by rw[Sb9,hh.int_inv],by simp⟩) (by omega) (by omega),fR];rfl
    ·refine dH hR hd h hs fun hg cj=>?_
     obtain⟨d,h6,h7⟩:=fI cj hg;simp only[Sbk,Sbw]at h6;obtain⟨rs,ki,kj,li,gy,e1,e2,e3,e4,e5,e6,e7,e8⟩:=Oa1 h6;have hh:=iP hR hg h5;rw[e3]at hh;have ir:=dN hR h3 (fA hR hg h1);have jk:=ir.rd;rw[e1]at jk;obtain⟨A,b,n,c,vs,i1,i2,i3,-⟩:=jk.inv;rw[i1]at ir;have nk:=zS hR hg h2 e2;refine⟨_,?_,uC (kh:=kj) ho f.und (f'.sizeOf w) i1 nk (.inr ⟨by rw[Sb9,hh.int_inv],by omega⟩) e5 e6⟩;refine Raf v7 ir e1 (by omega) (by omega) (fun hf=>?_) e4 ?_
     ·rcases nk with ⟨-,lA⟩|lA
      ·rw[lA];rfl
      ·cases lo with
       |none=>simp at lA
       |some _=>simp at hf
     ·rw[h7]
      simpa using e8
   ·refine dH hR hd h hs fun hg cj=>?_
    obtain⟨d1,uu,h5⟩:=zW cj.1 hg;obtain⟨d2,h6,h7⟩:=zW cj.2.1 hg;simp only[Sbk,Sbw,Step.n]at uu h6 h7;obtain⟨rs,ki,kj,li,gy,e1,e2,e3,e4,e5,e6,e7,e8⟩:=Oa1 h6;rw[e1]at uu;simp only[aN.run,Rbv,Tbj,and_true]at uu;rw[h5,<- uu]at e3;obtain⟨-,rfl⟩:IntKind.i64=kj/\(rs.length:Int)=gy:=by injection e3 with a b;exact⟨a,b⟩
    have ir:=dN hR h3 (fA hR hg h1);have jk:=ir.rd;rw[e1]at jk;obtain⟨A,b,n,c,vs,i1,i2,i3,-⟩:=jk.inv;rw[i1]at ir;have nk:=zS hR hg h2 e2;refine⟨_,?_,uC (kh:=.i64) ho f.und (f'.sizeOf w) i1 nk (.inl ⟨rfl,by rw[i2]⟩) e5 e6⟩;have lO:jY ρ vf=li.toNat:=by unfold jY;rw[e2]
    have hln:((rs.length:Nat):Int).toNat=n:=by rw[Int.toNat_natCast];exact i2
    rw[hln];refine Vau (lx:=vf) v7 ir e1 (l:=li.toNat) (by omega) (fun hf=>?_) e4 ?_ lO
    ·rcases nk with ⟨-,lA⟩|lA
     ·rw[lA];rfl
     ·cases lo with
      |none=>simp at lA
      |some _=>simp at hf
    ·rw[h7,List.take_of_length_le (by omega:rs.length<=n)]
     simpa using e8
  ·cases gv
end
end Go.Proofs.YtgpamlpecmldfaaGreat.Rf
