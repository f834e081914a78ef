import Derived.Test.YtcbkmmhkccnamaaGreatRf1
import Derived.WalkKit
import Derived.Laws.StructEq
import Derived.Laws.BytesArg
set_option linter.all false
open Array renaming ext' → Sbc
open Bool renaming and_eq_true → Obz, false_eq_true → Ob9, not_eq_true' → Pbs, or_eq_true → Qbb
open List renaming getElem?_eq_some_iff → Ob2, mem_singleton → Ob3, getElem?_eq_getElem → Ob5, getElem?_cons_zero → Ob7, mem_cons → Ob8, mem_cons_of_mem → Pbb, mem_cons_self → Pbf, mem_of_getElem? → Pbh, map_cons → Pbn, getElem?_map → Pbr, length_map → Pbt, all_eq_true → Pbv, map_nil → Pbx, append_nil → Pbz, getElem?_cons_succ → Pb4, getElem?_drop → Pb7, getElem?_take → Qbd, eq_nil_of_length_eq_zero → Qbe, length_singleton → Qbk, getElem?_eq_none → Qbr, length_take → Qbs, cons_append → Qb2, length_drop → Rba, mem_of_mem_drop → Rbe, map_append → Rbs
open List.cons renaming injEq → Qbf, inj → Sbd
open Nat renaming add_assoc → Pbm, lt_or_ge → Pbo, beq_eq → Pbq, zero_add → Pbw, ble_eq → Qba
open Option renaming bind_eq_some_iff → Oby, bind_some → Ob6, map_eq_some_iff → Pbc, map_some → Pb6
open Option.some renaming injEq → Ob0, inj → Pbu
open Prod.mk renaming injEq → Pbl
namespace Go.Proofs.YtcbkmmhkccnamaaGreat.Rf
theorem RdM.run_eval {α:Type}{look:Nat->Option aN}{m:RdM α}{x:α}{log:List Nat}(h:m.run look=some (x,log)):m.eval look=some x:=by
 induction m generalizing log with
 | ret a =>
  simp only[RdM.run,Ob0,Pbl]at h;rw[h.1];rfl
 |no=>cases h
 | rd k f ih =>
  simp only[RdM.run,Pbc]at h;obtain⟨⟨y,l⟩,h1,h2⟩:=h;simp only[Pbl]at h2;obtain⟨rfl,_⟩:=h2;exact ih _ h1
theorem RdM.run_same {α:Type}{look vf:Nat->Option aN}{m:RdM α}{x:α}{log:List Nat}(h:m.run look=some (x,log))(hs:∀ k∈log,vf k=look k):m.run vf=some (x,log):=by
 induction m generalizing log with
 |ret a=>exact h
 |no=>cases h
 | rd k f ih =>
  simp only[RdM.run,Pbc]at h ⊢;obtain⟨⟨y,l⟩,h1,h2⟩:=h;simp only[Pbl]at h2;obtain⟨rfl,rfl⟩:=h2;refine⟨(y,l),?_,rfl⟩;rw[hs k Pbf];exact ih _ h1 fun j hj=>hs j (Pbb _ hj)
section
variable {α γ:Type} {look:Nat->Option aN}
theorem aF (a:α):(RdM.ret a).eval look=some a:=rfl
theorem bJ:(RdM.no:RdM α).eval look=none:=rfl
theorem Vam (k:Nat)(f:Option aN->RdM α):(RdM.rd k f).eval look=(f (look k)).eval look:=rfl
theorem aA (m:RdM α)(f:α->RdM γ):(m >>= f).eval look=(m.eval look).bind fun x=>(f x).eval look:=by
 show (RdM.bind m f).eval look=_
 induction m with
 |ret a=>rfl
 |no=>rfl
 |rd k g ih=>exact ih _
theorem aP (k:Nat):(rdK k).eval look=some (look k):=rfl
theorem aT (x:Option α):(lU x).eval look=x:=by cases x<;>rfl
theorem aH (b:Bool):(bG b).eval look=if b=true then some () else none:=by cases b<;>rfl
theorem gG (c:Bool)(x y:RdM α):(bif c then x else y).eval look=if c=true then x.eval look else y.eval look:=by cases c<;>rfl
end
def Qaw (cf:Nat->List D->Option (List D))(ρ:List D)(g:Option (aI×Bool))(nv:Nat):Step->Prop
 | .prim p xs n => (gOn ρ g = true -> ∃ ds, p.run (xs.map (·.val ρ)) = some ds /\ ds.length = n /\ ∀ j d, ds[j]? = some d -> (aI.v (nv + j)).val ρ = d) /\
   (gOn ρ g=false->∀ j,j<n->(aI.v (nv+j)).val ρ=.undef)
 | .call f xs n olds => (gOn ρ g = true -> ∃ ds, cf f (xs.map (·.val ρ)) = some ds /\ ds.length = n /\ ∀ j d, ds[j]? = some d -> (aI.v (nv + j)).val ρ = d) /\
   (gOn ρ g=false->∀ j d,(List.replicate (n-olds.length) D.undef++olds.map (·.val ρ))[j]?=some d->(aI.v (nv+j)).val ρ=d)
def aJ (cf:Nat->List D->Option (List D))(ρ:List D)(g:Option (aI×Bool)):Nat->List Step->Prop
 |_,[]=>True
 |nv,s::r=>Qaw cf ρ g nv s/\aJ cf ρ g (nv+s.n) r
structure sM (P:Program) (ti:Nat->Option TI):Prop where
 ok:∀ t i,ti t=some i->rM P t=some i
structure bV (P:Program) (t:TypeId) (i:TI) (info:TypeInfo) (u:TypeDesc):Prop where
 info_:P.info? t=some info
 und:P.underlying t=some u
 cells:(flat P 12 t).map (·.map (mD P))=some i.cells
 len:i.cells.length=i.size
 zero:Oa5 i.agg info.zero i.cells=true
 eq:i=Jbx P t info u i.cells
theorem aV {P:Program}{t:TypeId}{i:TI}(h:rM P t=some i):∃ info u,bV P t i info u:=by
 unfold rM at h
 cases h1:P.info? t with
 |none=>rw[h1]at h;cases h
 | some info =>
  cases h2:P.underlying t with
  |none=>rw[h1,h2]at h;cases h
  | some u =>
   cases h3:(flat P 12 t).map (·.map (mD P)) with
   |none=>rw[h1,h2,h3]at h;cases h
   | some cs =>
    rw[h1,h2,h3]at h;dsimp only at h
    cases hb:(Nat.beq cs.length info.size&&Oa5 (Gap u) info.zero cs) with
    |false=>rw[hb]at h;cases h
    | true =>
     rw[hb]at h;obtain rfl:=Pbu h;simp only[Obz,Pbq]at hb;exact⟨info,u,h1,h2,h3,hb.1,hb.2,rfl⟩
section
variable {P:Program} {t:TypeId} {i:TI} {info:TypeInfo} {u:TypeDesc}
theorem bV.agg (h:bV P t i info u):i.agg=Gap u:=by rw[h.eq];rfl
theorem bV.size (h:bV P t i info u):i.size=info.size:=by rw[h.eq];rfl
theorem bV.elem (h:bV P t i info u):i.elem=Vav u:=by rw[h.eq];rfl
theorem bV.flds (h:bV P t i info u):i.flds=Vag u:=by rw[h.eq];rfl
theorem bV.bytes (h:bV P t i info u):i.bytes=info.bytes:=by rw[h.eq];rfl
theorem bV.ik (h:bV P t i info u):i.ik=Ibn u:=by rw[h.eq];rfl
theorem Ka3 (h:P.underlying t=some u)(w:World):(Go.isAgg t).run P w=.ok (Gap u) w:=by
 simp only[Go.isAgg,underlying,program,bind,pure,Sem.bind,Sem.run,h];cases u<;>rfl
theorem run_sizeOf (h:P.info? t=some info)(w:World):(Go.sizeOf t).run P w=.ok info.size w:=by
 simp only[Go.sizeOf,typeInfo,program,bind,pure,Sem.bind,Sem.run,h]
theorem run_underlying (h:P.underlying t=some u)(w:World):(Go.underlying t).run P w=.ok u w:=by
 simp only[underlying,program,bind,pure,Sem.bind,Sem.run,h]
theorem bV.isAgg (h:bV P t i info u)(w:World):(Go.isAgg t).run P w=.ok i.agg w:=by rw[Ka3 h.und,h.agg]
theorem bV.sizeOf (h:bV P t i info u)(w:World):(Go.sizeOf t).run P w=.ok i.size w:=by rw[run_sizeOf h.info_,h.size]
end
theorem D.beq0_eq {a b:D}(h:a.beq0 b=true):a=b:=by
 unfold D.beq0 at h;split at h<;>first|cases h|skip
 ·simp only[Obz,Ibs,decide_eq_true_eq]at h
  rw[h.1,h.2]
 ·simp only[beq_iff_eq]at h;rw[h]
 ·simp only[beq_iff_eq]at h;rw[h]
 ·simp only[Pbq]at h;rw[h]
 ·rfl
 ·rfl
theorem aI.beq0_eq {a b:aI}(h:a.beq0 b=true):a=b:=by
 unfold aI.beq0 at h;split at h
 ·simp only[Pbq]at h;rw[h]
 ·rw[D.beq0_eq h]
 ·cases h
theorem Oan {g h:Option (aI×Bool)}(e:Bb3 g h=true):g=h:=by
 unfold Bb3 at e;split at e
 ·rfl
 ·simp only[Obz,beq_iff_eq]at e
  rw[aI.beq0_eq e.1,e.2]
 ·cases e
section
variable {P:Program} {E:Env} {F:bC} {σ:Nat->Option aN} {ρ:List D} {a:Act} {w:World} {G:Gh} {g:Option (aI×Bool)}
theorem Abr (hg:gOn ρ g=true){v:SV}{u:Value}(h:bS σ ρ G w v u):bS σ ρ G w (unG g v) u:=by
 unfold unG;split
 ·rename_i h' x
  cases e:Bb3 g (some h') with
  |false=>exact h
  | true =>
   simp only[bS,aB,cond_true]at h ⊢;exact h.2 (Oan e▸hg)
 ·exact h
theorem Oau {ti:Nat->Option TI}{t:TypeId}{v:Value}{sv:SV}(h:Oav ti t v=some sv):bS σ ρ G w sv v:=by
 unfold Oav at h;split at h
 ·obtain rfl:=Pbu h;exact .int _ _
 ·obtain rfl:=Pbu h;exact .bool _
 ·obtain rfl:=Pbu h
  rename_i s;have:=Sc.str s.data.toList;simpa[bS,aB,aI.val] using this
 ·split at h
  ·obtain rfl:=Pbu h
   simp only[bS,aB];refine⟨⟨rfl,by simp⟩,fun _=>⟨?_,?_,trivial⟩⟩
   ·exact .rows none ⟨0,0,none⟩ 0 0 _ [] (fun _ _=>undef) rfl (Nat.le_refl _) (.inl rfl) (by simp) (by simp) (by simp)
   ·exact fun _ z _=>trivial
  ·cases h
 ·obtain rfl:=Pbu h;rfl
 ·cases h
theorem fI (hR:R E.ntmps F σ ρ a w G)(hg:gOn ρ g=true){t:TypeId}{x:Operand}{sv:SV}(h:(Lac E g t x).eval σ=some sv):bS σ ρ G w sv (a.eval x):=by
 cases x with
 | tmp k =>
  simp only[Lac,Vam]at h;split at h
  ·rename_i g' v hk
   rw[gG]at h;split at h
   ·rename_i hb
    simp only[Obz]at hb;simp only[aF,Ob0]at h;subst h;refine Abr hg ?_
    have hg':gOn ρ g'=true:=by
     cases g' with
     |none=>rfl
     |some z=>exact Oan hb.1▸hg
    have:=hR.slot hk hg';unfold yA at this;rw[if_pos (by simpa using hb.2)]at this;exact this
   ·cases h
  ·cases h
 | const v =>
  simp only[Lac,aT]at h;exact Oau h
 |global _=>cases h
 | func f =>
  simp only[Lac,aF,Ob0]at h;subst h;simp only[bS,aB];exact⟨[],rfl,by simp[aG]⟩
theorem eU (hR:R E.ntmps F σ ρ a w G)(hg:gOn ρ g=true){t:TypeId}{x:Operand}{l:aM}(h:(rdL E g t x).eval σ=some l):aB σ ρ G w l (a.eval x):=by
 simp only[rdL,aA,Oby]at h;obtain⟨sv,h1,h2⟩:=h;have:=fI hR hg h1;unfold one at h2;split at h2
 ·simp only[aF,Ob0]at h2
  subst h2;exact this
 ·cases h2
theorem iZ (hg:gOn ρ g=true){l:aM}{x:aI}{v:Value}(h:rV g l=some x)(hl:aB σ ρ G w l v):Sc v (x.val ρ):=by
 unfold rV at h;split at h
 ·obtain rfl:=Pbu h
  simpa[aB] using hl
 ·rename_i h' y
  cases e:Bb3 g (some h') with
  |false=>rw[e]at h;cases h
  | true =>
   rw[e]at h;obtain rfl:=Pbu h;simp only[aB]at hl;exact hl.2 (Oan e▸hg)
 ·cases h
theorem iN (hR:R E.ntmps F σ ρ a w G)(hg:gOn ρ g=true){t:TypeId}{x:Operand}{y:aI}(h:(rdA E g t x).eval σ=some y):Sc (a.eval x) (y.val ρ):=by
 simp only[rdA,aA,Oby,aT]at h;obtain⟨l,h1,h2⟩:=h;exact iZ hg h2 (eU hR hg h1)
end
def Nx (n:Nat)(F:bC)(σ:Nat->Option aN)(ρ:List D)(u:List (Nat×aN))(a:Act)(w:World):Prop:=∃ G,R n F (upds σ u) ρ a w G
def eO (n:Nat)(o:Oper):Prop:=∀ d,o.dst=some d->d<n
section
variable {P:Program} {E:Env} {F:bC} {σ:Nat->Option aN} {ρ:List D} {a:Act} {w w':World} {G:Gh} {g:Option (aI×Bool)} {o:Oper} {cf:Nat->List D->Option (List D)} {Q:Exit->Act->World->Prop} {next:Act->World->Prop}
theorem lN {v:Value}(h:(execOp a.eval o).run P w=.ok (.value v) w')(hn:next (a.put o.dst v) w'):o.wp P a w next Q:=by
 unfold Oper.wp;rw[h];exact hn
theorem Oa6 (h:(execOp a.eval o).run P w=.ok .skip w')(hn:next (a.put o.dst undef) w'):o.wp P a w next Q:=by
 unfold Oper.wp;rw[h];exact hn
theorem Iap (hR:R E.ntmps F σ ρ a w G)(hd:eO E.ntmps o)(hg:gOn ρ g=true){v:Value}{nv:Nat}(h:(execOp a.eval o).run P w=.ok (.value v) w)
  (hv:Sc v ((aI.v nv).val ρ)):o.wp P a w (Nx E.ntmps F σ ρ (dF o none (mkS g (.v nv)))) Q:=by
 refine lN h ⟨G,hR.pure o hd none _ v fun _=>?_⟩
 cases g with
 |none=>exact hv
 | some z =>
  simp only[mkS,bS,aB];exact⟨.inl hv,fun _=>hv⟩
theorem Bbl (hR:R E.ntmps F σ ρ a w G)(hd:eO E.ntmps o)(hg:gOn ρ g=false){nv:Nat}(hv:(aI.v nv).val ρ=.undef) :
  Nx E.ntmps F σ ρ (dF o none (mkS g (.v nv))) (a.put o.dst undef) w:=by
 refine⟨G,hR.pure o hd none _ undef fun _=>?_⟩
 cases g with
 |none=>cases hg
 | some z =>
  simp only[mkS,bS,aB];exact⟨.inr ⟨trivial,hv⟩,fun h=>by rw[h]at hg;cases hg⟩
theorem Ebz (hR:R E.ntmps F σ ρ a w G)(hd:eO E.ntmps o)(hg:gOn ρ g=false){sv:SV} :
  Nx E.ntmps F σ ρ (dF o g sv) (a.put o.dst undef) w:=⟨G,hR.pure o hd g _ undef fun h=>by rw[h]at hg;cases hg⟩
def gD (P:Program)(E:Env)(F:bC)(σ:Nat->Option aN)(ρ:List D)(a:Act)(w:World)(g:Option (aI×Bool))(o:Oper)(Q:Exit->Act->World->Prop)(u:List (Nat×aN)):Prop :=
 (gOn ρ g=true->o.wp P a w (Nx E.ntmps F σ ρ u) Q)/\(gOn ρ g=false->Nx E.ntmps F σ ρ u (a.put o.dst undef) w)
theorem step1 {p:aY}{xs:List aI}{nv n:Nat}(h:aJ cf ρ g nv [.prim p xs n])(hg:gOn ρ g=true) :
  ∃ ds,p.run (xs.map (·.val ρ))=some ds/\ds.length=n/\∀ j d,ds[j]?=some d->(aI.v (nv+j)).val ρ=d:=h.1.1 hg
theorem fF {p:aY}{xs:List aI}{nv:Nat}(h:aJ cf ρ g nv [.prim p xs 1])(hg:gOn ρ g=true) :
  ∃ d,p.run (xs.map (·.val ρ))=some [d]/\(aI.v nv).val ρ=d:=by
 obtain⟨ds,h1,h2,h3⟩:=step1 h hg
 match ds,h2 with
 |[d],_=>exact⟨d,h1,h3 0 d rfl⟩
theorem Da7 {p:aY}{xs:List aI}{nv:Nat}(h:aJ cf ρ g nv [.prim p xs 1])(hg:gOn ρ g=false):(aI.v nv).val ρ=.undef:=h.1.2 hg 0 (by omega)
theorem Cam (o:Oper)(g:Option (aI×Bool))(v:SV):(match o.dst with|some d=>[(kT d,aN.slot g v)]|none=>[])=dF o g v:=rfl
theorem cB (hR:R E.ntmps F σ ρ a w G)(hd:eO E.ntmps o){nv:Nat}{p:aY}{xs:List aI}{res:bI}
  (h:(qG o g nv p xs).eval σ=some res) (hs:aJ cf ρ g nv res.lets)
  (hv:gOn ρ g=true->∀ d,p.run (xs.map (·.val ρ))=some [d]->∃ v,Sc v d/\(execOp a.eval o).run P w=.ok (.value v) w):gD P E F σ ρ a w g o Q res.upd:=by
 simp only[qG,aF,Ob0]at h;subst h;simp only[Cam];refine⟨fun hg=>?_,fun hg=>Bbl hR hd hg (Da7 hs hg)⟩;obtain⟨d,h1,h2⟩:=fF hs hg;obtain⟨v,h3,h4⟩:=hv hg d h1;exact Iap hR hd hg h4 (h2▸h3)
theorem dB (hR:R E.ntmps F σ ρ a w G)(hd:eO E.ntmps o){lets:List Step}{sv:SV}{res:bI}{nv:Nat}
  (h:(qH o g lets sv []).eval σ=some res) (hs:aJ cf ρ g nv res.lets)
  (hv:gOn ρ g=true->aJ cf ρ g nv lets->∃ v,bS σ ρ G w sv v/\(execOp a.eval o).run P w=.ok (.value v) w):gD P E F σ ρ a w g o Q res.upd:=by
 simp only[qH,aF,Ob0]at h;subst h;simp only[Cam,Pbz];refine⟨fun hg=>?_,fun hg=>Ebz hR hd hg⟩;obtain⟨v,h1,h2⟩:=hv hg hs;exact lN h2 ⟨G,hR.pure o hd g _ v fun _=>h1⟩
theorem vI (hR:R E.ntmps F σ ρ a w G)(hd:eO E.ntmps o){sv:SV}{res:bI}{nv:Nat}
  (h:(Uaa o g nv sv).eval σ=some res) (hs:aJ cf ρ g nv res.lets)
  (hv:gOn ρ g=true->∃ v,bS σ ρ G w sv v/\(execOp a.eval o).run P w=.ok (.value v) w):gD P E F σ ρ a w g o Q res.upd:=by
 unfold Uaa at h;split at h
 ·rename_i z l
  split at h
  ·rename_i x hx
   refine cB hR hd h hs fun hg d hp=>?_
   obtain⟨v,h1,h2⟩:=hv hg;simp only[aY.run,Pbn,Pbx,Ob0,Qbf,and_true]at hp;exact⟨v,hp▸iZ hg hx h1,h2⟩
  ·exact dB hR hd h hs fun hg _=>hv hg
 ·exact dB hR hd h hs fun hg _=>hv hg
theorem fC {s:Sem Value}{v:Value}(h:s.run P w=.ok v w'):(do pure (Next.value (<- s)):Sem Next).run P w=.ok (.value v) w':=by
 simp only[Sem.run_bind,h,Result.andThen_ok,Sem.run_pure]
theorem Ga2 (hR:R E.ntmps F σ ρ a w G)(hd:eO E.ntmps o){nv:Nat}{x:Operand}(ho:o.op=.move x\/o.op=.assign x){res:bI}
  (h:(do Uaa o g nv (<- Lac E g o.type x):RdM bI).eval σ=some res) (hs:aJ cf ρ g nv res.lets):gD P E F σ ρ a w g o Q res.upd:=by
 simp only[aA,Oby]at h;obtain⟨sv,h1,h2⟩:=h;refine vI hR hd h2 hs fun hg=>⟨a.eval x,fI hR hg h1,?_⟩
 rcases ho with ho|ho<;>(unfold execOp;rw[ho];rfl)
theorem Sc.int_inv {v:Value}{k:IntKind}{n:Int}(h:Sc v (.int k n)):v=.int k n:=by cases h;rfl
theorem Sc.bool_inv {v:Value}{b:Bool}(h:Sc v (.bool b)):v=.bool b:=by cases h;rfl
theorem Sc.str_inv {v:Value}{l:List UInt8}(h:Sc v (.str l)):v=.string ⟨l.toArray⟩:=by cases h;rfl
theorem Hab (hR:R E.ntmps F σ ρ a w G)(hg:gOn ρ g=true){z:aI×Bool}{t:TypeId}{x:Operand}{y:aI}(h:(Hac E g z t x).eval σ=some y)(hz:gOn ρ (some z)=true):Sc (a.eval x) (y.val ρ):=by
 simp only[Hac,aA,Oby]at h;obtain⟨l,h1,h2⟩:=h;have hl:=eU hR hg h1;split at h2
 ·rename_i b hb
  simp only[aF,Ob0]at h2;subst h2;exact iZ hg hb hl
 ·simp only[aT]at h2
  exact iZ hz h2 hl
theorem Rah (hR:R E.ntmps F σ ρ a w G)(hd:eO E.ntmps o){nv:Nat}{c x y:Operand}(ho:o.op=.pick c x y){res:bI}
  (h:(do
   let c <- rdA E g 0 c
   let a <- Hac E g (c,true) o.type x
   let b <- Hac E g (c,false) o.type y
   qG o g nv .pick [c,a,b]:RdM bI).eval σ=some res) (hs:aJ cf ρ g nv res.lets):gD P E F σ ρ a w g o Q res.upd:=by
 simp only[aA,Oby]at h;obtain⟨c',h1,x',h2,y',h3,h4⟩:=h;refine cB hR hd h4 hs fun hg d hp=>?_
 have hc:=iN hR hg h1;simp only[Pbn,Pbx]at hp;generalize hcv:c'.val ρ=cv at hp hc
 cases cv with
 | bool b =>
  simp only[aY.run,Ob0,Qbf,and_true]at hp;have e:a.eval c=.bool b:=hc.bool_inv;refine⟨if b then a.eval x else a.eval y,?_,?_⟩
  ·cases b with
   | true =>
    rw[if_pos rfl]at hp ⊢;exact hp▸Hab hR hg h2 (by simp[gOn,hcv])
   | false =>
    simp only[Ob9,if_false]at hp ⊢;exact hp▸Hab hR hg h3 (by simp[gOn,hcv])
  ·unfold execOp
   simp only[ho,e];simp only[asBool,Sem.run_bind,Sem.run_pure,Result.andThen_ok]
 |_=>simp[aY.run]at hp
theorem toList_mk (l:List UInt8):(⟨l.toArray⟩:ByteArray).toList=l:=by
 rw[ByteArray.toList_eq]
theorem size_mk (l:List UInt8):(⟨l.toArray⟩:ByteArray).size=l.length:=rfl
theorem Wai (x y:List UInt8):(⟨x.toArray⟩:ByteArray)++(⟨y.toArray⟩:ByteArray)=⟨(x++y).toArray⟩:=by
 apply ByteArray.ext;rw[ByteArray.data_append];simp
theorem Ran {op:BinOp}{t:TypeId}{k k':IntKind}{x y:Int}{d:D}(h:Ma8 op (.int k x) (.int k' y)=some d) :
    ∃ v,Sc v d/\(binOp op t (.int k x) (.int k' y)).run P w=.ok v w:=by
  unfold Ma8 at h;dsimp only at h
  cases op<;>dsimp only at h<;>first
    | (simp only [Taw] at h
       split at h
       · cases h
       · rename_i hy
         obtain rfl:=Pbu h;exact⟨_,.int _ _,by simp[binOp,Op.shift,hy]⟩)
    | (split at h
       · rename_i hk
         subst hk;simp only[zU]at h
         first
         | (obtain rfl := Pbu h
            first
            |exact⟨_,.int _ _,by simp[binOp,Op.intArith,Op.intBits]⟩
            |exact⟨_,.bool _,by simp[binOp,Op.intCmp]⟩)
         | (split at h
            · cases h
            · rename_i hy
              obtain rfl:=Pbu h;exact⟨_,.int _ _,by simp[binOp,Op.intDiv,hy]⟩)
         |cases h
       · cases h)
theorem Ram {op:BinOp}{t:TypeId}{x y:List UInt8}{d:D}(h:Ma8 op (.str x) (.str y)=some d) :
    ∃ v,Sc v d/\(binOp op t (.string ⟨x.toArray⟩) (.string ⟨y.toArray⟩)).run P w=.ok v w:=by
  simp only[Ma8,Dbj]at h;have a38:IntKind.i64.max=9223372036854775807:=by decide
  cases op<;>dsimp only at h<;>first
    | (obtain rfl := Pbu h
       exact⟨_,.bool _,by simp[binOp,Op.stringOp,toList_mk]⟩)
    | (split at h
       · rename_i hl
         obtain rfl:=Pbu h;refine⟨_,.str _,?_⟩;simp only[binOp,Op.stringOp,size_mk,Wai,a38];rw[if_neg (by omega)];rfl
       · cases h)
    |cases h
theorem Bbc {op:BinOp}{t:TypeId}{vx vy:Value}{dx dy d:D}(hx:Sc vx dx)(hy:Sc vy dy)(h:Ma8 op dx dy=some d) :
  ∃ v,Sc v d/\(binOp op t vx vy).run P w=.ok v w:=by
 cases hx<;>cases hy<;>first|exact Ran h|exact Ram h|(simp[Ma8]at h)
theorem Sai {op:BinOp}{t:TypeId}{x y:Operand}{vx vy:Value}{dx dy:D}(hx:Sc vx dx)(hy:Sc vy dy):(eqGuard op t x y vx vy).run P w=.ok () w:=by
 cases hx<;>cases hy<;>(unfold eqGuard;cases op<;>simp)
theorem Kaw (hR:R E.ntmps F σ ρ a w G)(hd:eO E.ntmps o){nv:Nat}{op:BinOp}{t ty:TypeId}{x y:Operand}(ho:o.op=.binOp op t x y ty){res:bI}
  {x' y':aI} (h1:gOn ρ g=true->Sc (a.eval x) (x'.val ρ)) (h2:gOn ρ g=true->Sc (a.eval y) (y'.val ρ))
  (h:(qG o g nv (.bin op) [x',y']).eval σ=some res) (hs:aJ cf ρ g nv res.lets):gD P E F σ ρ a w g o Q res.upd:=by
 refine cB hR hd h hs fun hg d hp=>?_
 simp only[Pbn,Pbx,aY.run,Pbc,Qbf,and_true]at hp;obtain⟨d',hp,rfl⟩:=hp;obtain⟨v,h3,h4⟩:=Bbc (P:=P) (w:=w) (t:=t) (h1 hg) (h2 hg) hp;refine⟨v,h3,?_⟩;unfold execOp;simp only[ho];refine fC ?_;rw[Sem.run_bind,Sai (h1 hg) (h2 hg)];exact h4
theorem Xa6 (hR:R E.ntmps F σ ρ a w G)(hd:eO E.ntmps o){nv:Nat}{op:UnOp}{t:TypeId}{x:Operand}(ho:o.op=.unOp op t x){res:bI}
  (h:(do
   let a <- rdA E g 0 x
   match op with
   |.not=>qG o g nv .not [a]
   |.neg=>qG o g nv .neg [a]
   |.xor=>qG o g nv .inv [a]
   |_=>.no:RdM bI).eval σ=some res) (hs:aJ cf ρ g nv res.lets):gD P E F σ ρ a w g o Q res.upd:=by
 simp only[aA,Oby]at h;obtain⟨x',h1,h2⟩:=h;split at h2
 ·refine cB hR hd h2 hs fun hg d hp=>?_
  have hx:=iN hR hg h1;simp only[Pbn,Pbx]at hp;generalize x'.val ρ=xv at hp hx;cases xv<;>simp only[aY.run]at hp<;>first|cases hp|skip
  rename_i b;exact⟨_,.bool _,by unfold execOp;simp only[ho,hx.bool_inv];rfl⟩
 ·refine cB hR hd h2 hs fun hg d hp=>?_
  have hx:=iN hR hg h1;simp only[Pbn,Pbx]at hp;generalize x'.val ρ=xv at hp hx;cases xv<;>simp only[aY.run]at hp<;>first|cases hp|skip
  exact⟨_,.int _ _,by unfold execOp;simp only[ho,hx.int_inv];rfl⟩
 ·refine cB hR hd h2 hs fun hg d hp=>?_
  have hx:=iN hR hg h1;simp only[Pbn,Pbx]at hp;generalize x'.val ρ=xv at hp hx;cases xv<;>simp only[aY.run,zU,Pb6,Ob0,Qbf,and_true]at hp<;>first|cases hp|skip
  exact⟨_,.int _ _,by unfold execOp;simp only[ho,hx.int_inv];rfl⟩
 ·cases h2
theorem Raj (hR:R E.ntmps F σ ρ a w G)(hd:eO E.ntmps o)(hti:sM P E.ti){nv:Nat}{src dst:TypeId}{x:Operand}(ho:o.op=.convert src dst x){res:bI}{s d:TI}{k:IntKind}
  (nn:E.ti src=some s) (l7:s.ik.isSome=true) (gp:E.ti dst=some d) (hk:d.ik=some k) {x':aI} (h1:(rdA E g src x).eval σ=some x')
  (h:(qG o g nv (.conv k) [x']).eval σ=some res) (hs:aJ cf ρ g nv res.lets):gD P E F σ ρ a w g o Q res.upd:=by
 refine cB hR hd h hs fun hg e hp=>?_
 have hx:=iN hR hg h1;simp only[Pbn,Pbx]at hp;generalize x'.val ρ=xv at hp hx;cases xv<;>simp only[aY.run]at hp<;>first|cases hp|skip
 rename_i k0 n;obtain⟨i1,u1,f1⟩:=aV (hti.ok _ _ nn);obtain⟨i2,u2,f2⟩:=aV (hti.ok _ _ gp)
 have e2:u2=.int k:=by
  have:=f2.ik.symm.trans hk;unfold Ibn at this;split at this
  ·rw[Pbu this]
  ·cases this
 subst e2;refine⟨_,.int _ _,?_⟩;unfold execOp;simp only[ho,hx.int_inv];refine fC ?_;simp only[convert,Sem.run_bind,run_underlying f1.und,run_underlying f2.und,Result.andThen_ok];rfl
end
section
variable {P:Program} {E:Env} {F:bC} {σ:Nat->Option aN} {ρ:List D} {a:Act} {w w':World} {G:Gh} {g:Option (aI×Bool)} {o:Oper} {cf:Nat->List D->Option (List D)} {Q:Exit->Act->World->Prop} {next:Act->World->Prop}
def Jaa (σ:Nat->Option aN)(r k:Nat):Prop:=∃ m,wD σ r k m
theorem iG:∀ {deps ds:List (Nat×Nat)},(tF deps).eval σ=some ds ->
  (∀ z∈deps,kL σ z.1 z.2)/\(∀ z∈ds,z∈deps/\Jaa σ z.1 z.2)/\∀ z∈deps,z∈ds\/∃ x m,σ (kR z.1)=some (.root x m z.2 .frozen)
 | [], ds, h => by
  simp only[tF,aF,Ob0]at h;subst h;simp
 | (r, k) :: rest, ds, h => by
  simp only[tF,aA,aP,Ob6]at h;split at h
  ·rename_i x m aE st hk
   simp only[aA,Oby]at h;obtain⟨gq,h1,h2⟩:=h;obtain⟨h3,h4,h5⟩:=iG h1;split at h2
   ·rw[gG]at h2
    split at h2
    ·rename_i e
     simp only[Pbq]at e;simp only[aF,Ob0]at h2;subst h2 e;refine⟨fun z hz=>?_,fun z hz=>⟨Pbb _ (h4 z hz).1,(h4 z hz).2⟩,fun z hz=>?_⟩
     ·rcases Ob8.1 hz with rfl|hz
      ·exact⟨x,m,.frozen,hk,.inr rfl⟩
      ·exact h3 z hz
     ·rcases Ob8.1 hz with rfl|hz
      ·exact .inr ⟨x,m,hk⟩
      ·exact h5 z hz
    ·cases h2
   ·rw[gG]at h2
    split at h2
    ·rename_i e
     simp only[Pbq]at e;simp only[aF,Ob0]at h2;subst h2 e;refine⟨fun z hz=>?_,fun z hz=>?_,fun z hz=>?_⟩
     ·rcases Ob8.1 hz with rfl|hz
      ·exact⟨x,m,.live,hk,.inl rfl⟩
      ·exact h3 z hz
     ·rcases Ob8.1 hz with rfl|hz
      ·exact⟨Pbf,m,x,hk⟩
      ·exact⟨Pbb _ (h4 z hz).1,(h4 z hz).2⟩
     ·rcases Ob8.1 hz with rfl|hz
      ·exact .inl Pbf
      ·exact (h5 z hz).imp (Pbb _) id
    ·cases h2
   ·cases h2
  ·cases h
theorem Rd.drop (hR:R E.ntmps F σ ρ a w G){deps ds:List (Nat×Nat)}(h:∀ z∈deps,z∈ds\/∃ x m,σ (kR z.1)=some (.root x m z.2 .frozen)){v:Value}{d:D}
  (hv:Rd (allow G deps) w v d):Rd (allow G ds) w v d:=by
 refine hv.mono fun b hb=>⟨?_,rfl⟩
 rcases hb with hb|⟨r,k,p,hm,hb⟩
 ·exact .inl hb
 ·rcases h (r,k) hm with h1|⟨x,m,h1⟩
  ·exact .inr ⟨r,k,p,h1,hb⟩
  ·exact absurd hb ((hR.root h1).2 b p)
def sD (σ:Nat->Option aN)(ρ:List D)(G:Gh)(w:World)(s:SlR)(v:Value):Prop :=
 match s.own with
 |none=>True
 | some (r, k, m, p) => s.deps = [(r, k)] /\ wD σ r k m /\ match p with
  |.no=>True
  |.view=>Rp G.own w r [] m v (s.x.val ρ)
  |.suf sz lo=>Abo (G.hdr r) v sz (jT ρ lo)
  |.path q=>q.length<=m/\Rp G.own w r (aZ ρ q) (m-q.length) v (s.x.val ρ)/\wG G.own w r [] (G.hdr r) (aZ ρ q) v
structure Sa0 (σ:Nat->Option aN) (ρ:List D) (G:Gh) (w:World) (s:SlR) (v:Value):Prop where
 rd:Rd (allow G s.deps) w v (s.x.val ρ)
 live:∀ z∈s.deps,Jaa σ z.1 z.2
 nie:s.nie=true->∀ z,s.x.val ρ=.rows z []->v=.slice none 0 0
 own:sD σ ρ G w s v
theorem dI (hR:R E.ntmps F σ ρ a w G){l:aM}{s:SlR}(h:(vJ l).eval σ=some s){v:Value}(hl:aB σ ρ G w l v):Sa0 σ ρ G w s v:=by
 unfold vJ at h;split at h
 ·rename_i r
  simp only[aB]at hl;simp only[aA,aP,Ob6]at h;split at h
  ·rename_i x m aE hk
   simp only[aF,Ob0]at h;subst h;have hr:=hR.root hk;simp only[bK]at hr;rw[<- hl.1]at hr;refine⟨hr.rd.mono fun b hb=>⟨hb.imp id fun ⟨q,hq⟩=>⟨r,aE,q,by simp,hq⟩,rfl⟩,?_,by simp,?_⟩
   ·intro z hz
    simp only[Ob3]at hz;subst hz;exact⟨m,x,hk⟩
   ·refine⟨rfl,⟨x,hk⟩,Nat.zero_le _,by simpa[aZ] using hr,?_⟩
    simp only[aZ,Pbx,wG];exact hl.1
  ·rename_i x m aE hk
   simp only[aF,Ob0]at h;subst h;have hr:=(hR.root hk).1;rw[<- hl.1]at hr;exact⟨hr.mono fun b hb=>⟨.inl hb,rfl⟩,by simp,by simp,trivial⟩
  ·cases h
 ·rename_i deps p nie x
  simp only[aB]at hl;simp only[aA,Oby]at h;obtain⟨ds,h1,h2⟩:=h;obtain⟨h3,h4,h5⟩:=iG h1;obtain⟨h6,h7,h8⟩:=hl.2 h3;have h9:=h6.drop hR h5;split at h2
  ·simp only[aF,Ob0]at h2
   subst h2;exact⟨h9,fun z hz=>(h4 z hz).2,h7,trivial⟩
  ·rename_i r k z ct
   simp only[aA,aP,Ob6]at h2;split at h2
   ·rename_i x' m aE hk
    simp only[aF,Ob0]at h2;subst h2;have hz:=(h4 z (by simp)).1;simp only[Ob3]at hz;subst hz;have gu:Jaa σ r k:=(h4 (r,k) (by simp)).2;obtain⟨m',x'',jh⟩:=gu;rw[hk]at jh;obtain⟨rfl,rfl,rfl⟩:x'=x''/\m=m'/\aE=k:=by injection jh with jh;injection jh with a b c d;exact⟨a,b,c⟩
    refine⟨h9,fun z hz=>(h4 z hz).2,h7,rfl,⟨x',hk⟩,?_⟩
    cases p with
    |no=>trivial
    |view=>exact h8 r aE m rfl ⟨x',hk⟩
    |path q=>exact h8 r aE m rfl ⟨x',hk⟩
    |suf sz lo=>exact h8 r aE m rfl ⟨x',hk⟩
   ·cases h2
  ·simp only[aF,Ob0]at h2
   subst h2;exact⟨h9,fun z hz=>(h4 z hz).2,h7,trivial⟩
 ·cases h
theorem Rd.inv {ok:Nat->Prop}{v:Value}{sz:Nat}{rs:List (List D)}(h:Rd ok w v (.rows sz rs)) :
  ∃ (A:Option Addr) (a:Addr) (n c:Nat) (vs:Nat->Nat->Value),v=.slice A n c/\rs.length=n/\n<=c/\(n=0\/A=some a)/\(∀ r∈rs,r.length=sz) /\
   (∀ i r,rs[i]?=some r->∀ j d,r[j]?=some d->ok a.block/\w.cell? (a.add (i*sz+j))=some (vs i j)) /\
   (∀ i r,rs[i]?=some r->∀ j d,r[j]?=some d->Rd ok w (vs i j) d):=by
 cases h with
 |sc h=>cases h
 |rows A a n c sz rs vs hn hc hA dm bc b5=>exact⟨A,a,n,c,vs,rfl,hn,hc,hA,dm,bc,b5⟩
theorem nT {t:TypeId}{i:TI}{info:TypeInfo}{u:TypeDesc}{e:Nat}(f:bV P t i info u)(h:i.elem=some e):u=.slice e:=by
 have:=f.elem.symm.trans h;unfold Vav at this;split at this
 ·rw[Pbu this]
 ·cases this
theorem Fal {t:TypeId}{i:TI}{info:TypeInfo}{u:TypeDesc}(f:bV P t i info u)(h:i.elem.isSome=true):∃ e,u=.slice e:=by
 cases e:i.elem with
 |none=>rw[e]at h;cases h
 |some e'=>exact⟨e',nT f e⟩
theorem Aa1 {t:TypeId}{i:TI}{info:TypeInfo}{u:TypeDesc}(f:bV P t i info u)(h:i.isStr=true):u=.string:=by
 have:Uay u=true:=by rw[<- h,f.eq];rfl
 unfold Uay at this;split at this
 ·rfl
 ·cases this
theorem Jan {t:TypeId}{i:TI}{info:TypeInfo}{u:TypeDesc}(f:bV P t i info u){k off ft:Nat}(h:i.flds[k]?=some (off,ft)) :
  ∃ fs fd,u=.struct fs/\fs[k]?=some fd/\fd.offset=off/\fd.type=ft:=by
 rw[f.flds]at h;unfold Vag at h;split at h
 ·rename_i fs
  simp only[Pbr,Pbc,Pbl]at h;obtain⟨fd,h1,h2,h3⟩:=h;exact⟨fs,fd,rfl,by simpa using h1,h2,h3⟩
 ·simp at h
theorem Jay {α:Type}{as:Array α}{x:α}(h:as.toList=[x]):as=#[x]:=by
 apply Sbc;simpa using h
theorem Zav {α:Type}{as:Array α}{x y:α}(h:as.toList=[x,y]):as=#[x,y]:=by
 apply Sbc;simpa using h
theorem kQ {b:Builtin}{args:Array Operand}{argTypes:Array TypeId}{s:Sem Value}{v:Value}(ho:o.op=.call { callee:=.builtin b,args,argTypes })
  (hb:∀ consts,builtin b argTypes o.type consts (args.map a.eval)=(do pure (.value (<- s)))) (h:s.run P w=.ok v w'):(execOp a.eval o).run P w=.ok (.value v) w':=by
 unfold execOp;simp only[ho,resolve,Sem.run_bind,Sem.run_pure,Result.andThen_ok,invoke,hb];rw[h];rfl
theorem Oaf {α γ:Type}(f:α->γ)(x:α):Array.map f #[x]=#[f x]:=by simp
theorem Bbo {α γ:Type}(f:α->γ)(x y:α):Array.map f #[x,y]=#[f x,f y]:=by simp
theorem Na4 {t ty:TypeId}{argTypes:Array TypeId}(ht:argTypes[0]?=some t)(hu:P.underlying t=some .string)(s:ByteArray) :
  (Builtin.len_ argTypes ty #[.string s]).run P w=.ok (.int .i64 s.size) w:=by
 simp[Builtin.len_,ht,run_underlying hu,goInt]
theorem run_len_slice {t ty e:TypeId}{argTypes:Array TypeId}(ht:argTypes[0]?=some t)(hu:P.underlying t=some (.slice e))(A:Option Addr)(n c:Nat) :
  (Builtin.len_ argTypes ty #[.slice A n c]).run P w=.ok (.int .i64 n) w:=by
 simp[Builtin.len_,ht,run_underlying hu,goInt]
theorem Tao (hR:R E.ntmps F σ ρ a w G)(hd:eO E.ntmps o)(hti:sM P E.ti){nv:Nat}{args:Array Operand}{argTypes:Array TypeId}
  (ho:o.op=.call { callee:=.builtin .len,args,argTypes }) {x:Operand} (hx:args.toList=[x]) {t:TypeId} (ht:argTypes[0]?=some t) {ti:TI} (hi:E.ti t=some ti) {res:bI}
  (h:(do
   let l <- rdL E g t x
   match rV g l with
   | some a => do
    bG ti.isStr
    qG o g nv .slen [a]
   | none => do
    bG ti.elem.isSome
    let s <- vJ l
    qG o g nv .len [s.x]:RdM bI).eval σ=some res) (hs:aJ cf ρ g nv res.lets):gD P E F σ ρ a w g o Q res.upd:=by
 obtain⟨info,u,f⟩:=aV (hti.ok _ _ hi);simp only[aA,Oby]at h;obtain⟨l,h1,h2⟩:=h;split at h2
 ·rename_i y hy
  simp only[aA,aH,Oby]at h2;obtain⟨_,h3,h4⟩:=h2;split at h3
  ·rename_i a2f
   obtain rfl:=Aa1 f a2f;refine cB hR hd h4 hs fun hg d hp=>?_
   have hv:=iZ hg hy (eU hR hg h1);simp only[Pbn,Pbx]at hp;generalize y.val ρ=yv at hp hv;cases yv<;>simp only[aY.run]at hp<;>first|cases hp|skip
   rename_i s;refine⟨_,.int _ _,kQ ho (fun _=>rfl) ?_⟩;have e:=Na4 (P:=P) (w:=w) (ty:=o.type) ht f.und ⟨s.toArray⟩;rw[<- hv.str_inv]at e;rw[Jay hx,Oaf];exact e
  ·cases h3
 ·rename_i hy
  simp only[aA,aH,Oby]at h2;obtain⟨_,h3,s,h4,h5⟩:=h2;split at h3
  ·rename_i so
   obtain⟨e,rfl⟩:=Fal f so;refine cB hR hd h5 hs fun hg d hp=>?_
   have hv:=(dI hR h4 (eU hR hg h1)).rd;simp only[Pbn,Pbx]at hp;generalize s.x.val ρ=yv at hp hv;cases yv<;>simp only[aY.run]at hp<;>first|cases hp|skip
   rename_i sz rs;obtain⟨A,b,n,c,vs,e1,e2,-⟩:=hv.inv;refine⟨_,.int _ _,kQ ho (fun _=>rfl) ?_⟩;have e:=run_len_slice (P:=P) (w:=w) (ty:=o.type) ht f.und A n c;rw[<- e1]at e;rw[Jay hx,e2,Oaf];exact e
  ·cases h3
theorem aG.len {ls:List aM}:∀ {vs:List Value},aG σ ρ G w ls vs->vs.length=ls.length:=by
 induction ls with
 |nil=>intro vs h;simp only[aG]at h;simp[h]
 | cons l ls ih =>
  intro vs h;simp only[aG]at h;obtain⟨u,us,rfl,_,h2⟩:=h;simp[ih h2]
theorem aG.get {ls:List aM}:∀ {vs:List Value} {i:Nat} {l:aM},aG σ ρ G w ls vs->ls[i]?=some l->∃ v,vs[i]?=some v/\aB σ ρ G w l v:=by
 induction ls with
 |nil=>intro vs i l h hi;simp at hi
 | cons l0 ls ih =>
  intro vs i l h hi;simp only[aG]at h;obtain⟨u,us,rfl,h1,h2⟩:=h
  cases i with
  | zero =>
   simp only[Ob7,Ob0]at hi;subst hi;exact⟨u,rfl,h1⟩
  | succ i =>
   simp only[Pb4]at hi ⊢;exact ih h2 hi
theorem aG.of_get {ls:List aM}:∀ {vs:List Value},vs.length=ls.length->(∀ (i:Nat) (l:aM) (v:Value),ls[i]?=some l->vs[i]?=some v->aB σ ρ G w l v)->aG σ ρ G w ls vs:=by
 induction ls with
 |nil=>intro vs h _;simp only[aG];exact Qbe h
 | cons l0 ls ih =>
  intro vs h hg
  cases vs with
  |nil=>simp at h
  | cons u us =>
   simp only[aG];exact⟨u,us,rfl,hg 0 l0 u rfl rfl,ih (by simpa using h) fun i l v hi hv=>hg (i+1) l v hi hv⟩
theorem aG.drop {ls:List aM}{vs:List Value}(k:Nat)(h:aG σ ρ G w ls vs):aG σ ρ G w (ls.drop k) (vs.drop k):=by
 refine .of_get (by simp[h.len]) fun i l v hi hv=>?_
 rw[Pb7]at hi hv;obtain⟨v',h1,h2⟩:=h.get hi;rw[h1]at hv;exact Pbu hv▸h2
theorem aG.take {ls:List aM}{vs:List Value}(k:Nat)(h:aG σ ρ G w ls vs):aG σ ρ G w (ls.take k) (vs.take k):=by
 refine .of_get (by simp[h.len]) fun i l v hi hv=>?_
 rw[Qbd]at hi hv;split at hi
 ·rename_i hk
  rw[if_pos hk]at hv;obtain⟨v',h1,h2⟩:=h.get hi;rw[h1]at hv;exact Pbu hv▸h2
 ·cases hi
theorem pR {agg:Bool}{ls:List aM}{sv:SV}(h:Paj agg ls=some sv){vs:List Value}(hl:aG σ ρ G w ls vs){v:Value}
  (hv:if agg=true then v=.agg vs.toArray else vs=[v]):bS σ ρ G w sv v:=by
 unfold Paj at h
 cases agg with
 | true =>
  simp only[cond_true,Ob0]at h;subst h;exact⟨vs,by simpa using hv,hl⟩
 | false =>
  simp only[cond_false]at h;split at h
  ·simp only[Ob0]at h
   subst h;simp only[Ob9,if_false]at hv;subst hv;simp only[aG]at hl;obtain⟨u,us,e,h1,-⟩:=hl;obtain⟨rfl,-⟩:=Sbd e;exact h1
  ·cases h
theorem Nax (hR:R E.ntmps F σ ρ a w G)(hd:eO E.ntmps o)(hti:sM P E.ti){nv:Nat}{t:TypeId}{x:Operand}{k:Nat}(ho:o.op=.field t x k){ti fi:TI}{off ft:Nat}
  (hi:E.ti t=some ti) (hf:ti.flds[k]?=some (off,ft)) (hfi:E.ti ft=some fi) {res:bI}
  (h:(do
   match <- Lac E g t x with
   | .agg ls => do
    bG (Nat.ble (off+fi.size) ls.length&&Nat.beq ls.length ti.size)
    match Paj fi.agg ((ls.drop off).take fi.size) with
    |some v=>Uaa o g nv v
    |none=>.no
   |_=>.no:RdM bI).eval σ=some res) (hs:aJ cf ρ g nv res.lets):gD P E F σ ρ a w g o Q res.upd:=by
 obtain⟨info,u,f⟩:=aV (hti.ok _ _ hi);obtain⟨ia,u',f'⟩:=aV (hti.ok _ _ hfi);obtain⟨fs,fd,rfl,h1,rfl,rfl⟩:=Jan f hf;simp only[aA,Oby]at h;obtain⟨sv,h2,h3⟩:=h;split at h3
 ·rename_i ls
  simp only[aA,aH,Oby]at h3;obtain⟨_,h4,h5⟩:=h3;split at h4
  ·rename_i hb
   simp only[Obz,Qba]at hb;split at h5
   ·rename_i sv' gg
    refine vI hR hd h5 hs fun hg=>?_
    obtain⟨vs,e,hl⟩:=fI hR hg h2;have eW:=(hl.drop fd.offset).take fi.size;have hlen:=hl.len
    have bd:∀ v,(if fi.agg=true then v=.agg ((vs.drop fd.offset).take fi.size).toArray else (vs.drop fd.offset).take fi.size=[v]) ->
      (execOp a.eval o).run P w=.ok (.value v) w:=by
     intro v hv;unfold execOp;simp only[ho];refine fC ?_;simp only[Instr.field,Sem.run_bind,run_underlying f.und,Result.andThen_ok,h1,e,asAgg,Sem.run_pure,part,f'.isAgg,f'.sizeOf]
     cases td:fi.agg with
     | true =>
      rw[td]at hv;simp only[if_true]at hv ⊢;rw[hv];simp only[Sem.run_bind,f'.sizeOf,Result.andThen_ok,Sem.run_pure];congr 2;apply Sbc;simp[List.extract_eq_take_drop]
     | false =>
      rw[td]at hv;simp only[Ob9,if_false]at hv ⊢
      have:vs[fd.offset]?=some v:=by
       have h0:((vs.drop fd.offset).take fi.size)[0]?=some v:=by rw[hv];rfl
       rw[Qbd]at h0;split at h0
       ·rw[Pb7]at h0;simpa using h0
       ·cases h0
      simp[this]
    cases td:fi.agg with
    | true =>
     refine⟨.agg ((vs.drop fd.offset).take fi.size).toArray,pR gg eW (by rw[td];rfl),bd _ (by rw[td];rfl)⟩
    | false =>
     have oq:((ls.drop fd.offset).take fi.size).length=1:=by
      rw[td]at gg;unfold Paj at gg;simp only[cond_false]at gg;split at gg
      ·rename_i l oq;rw[oq];rfl
      ·cases gg
     have sT:((vs.drop fd.offset).take fi.size).length=1:=by rw[eW.len,oq]
     obtain⟨v,hv⟩:=List.length_eq_one_iff.1 sT;exact⟨v,pR gg eW (by rw[td];exact hv),bd _ (by rw[td];exact hv)⟩
   ·cases h5
  ·cases h4
 ·cases h3
theorem gY.get:∀ {ts:List (Bool×List aM)} {us:List Value} {i:Nat} {ag:Bool} {ls:List aM},gY σ ρ G w ts us->ts[i]?=some (ag,ls) ->
  ∃ u vs,us[i]?=some u/\aG σ ρ G w ls vs/\(if ag=true then u=.agg vs.toArray else vs=[u])
 |[],_,_,_,_,_,h=>by simp at h
 | (a0, l0) :: r, us, i, ag, ls, ht, h => by
  obtain⟨u,cD,vs,rfl,h1,h2,h3⟩:=ht
  cases i with
  | zero =>
   simp only[Ob7,Ob0,Pbl]at h;obtain⟨rfl,rfl⟩:=h;exact⟨u,vs,rfl,h1,h2⟩
  | succ i =>
   simp only[Pb4]at h ⊢;exact gY.get h3 h
theorem Iao (hR:R E.ntmps F σ ρ a w G)(hd:eO E.ntmps o){nv:Nat}{x:Operand}{i:Nat}(ho:o.op=.extract x i){res:bI}
  (h:(do
   match <- Lac E g 0 x with
   | .tup vs => match vs[i]? with
    | some (a, ls) => match Paj a ls with
     |some v=>Uaa o g nv v
     |none=>.no
    |none=>.no
   |_=>.no:RdM bI).eval σ=some res) (hs:aJ cf ρ g nv res.lets):gD P E F σ ρ a w g o Q res.upd:=by
 simp only[aA,Oby]at h;obtain⟨sv,h2,h3⟩:=h;split at h3
 ·rename_i ts
  split at h3
  ·rename_i ag ls hi
   split at h3
   ·rename_i v hv
    refine vI hR hd h3 hs fun hg=>?_
    obtain⟨us,e,ht⟩:=fI hR hg h2;obtain⟨u,vs,h4,h5,h6⟩:=ht.get hi;refine⟨u,pR hv h5 h6,?_⟩;unfold execOp;simp only[ho];refine fC ?_;simp[Instr.extract,e,h4]
   ·cases h3
  ·cases h3
 ·cases h3
theorem Eae (hR:R E.ntmps F σ ρ a w G)(hd:eO E.ntmps o)(hti:sM P E.ti){nv:Nat}{t:TypeId}{x:Operand}{k:Nat}(ho:o.op=.fieldAddr t x k){ti fi:TI}{off ft:Nat}
  (hi:E.ti t=some ti) (hf:ti.flds[k]?=some (off,ft)) (hfi:E.ti ft=some fi) (lP:0<fi.size) {res:bI}
  (h:(do Nao o g off (<- rdL E g 0 x):RdM bI).eval σ=some res) (hs:aJ cf ρ g nv res.lets):gD P E F σ ρ a w g o Q res.upd:=by
 obtain⟨info,u,f⟩:=aV (hti.ok _ _ hi);obtain⟨ia,u',f'⟩:=aV (hti.ok _ _ hfi);obtain⟨fs,fd,rfl,h1,rfl,rfl⟩:=Jan f hf;simp only[aA,Oby]at h;obtain⟨l,h2,h3⟩:=h
 have bd:∀ b:Addr,a.eval x=.pointer (some b)->(execOp a.eval o).run P w=.ok (.value (.pointer (some (b.add fd.offset)))) w:=by
  intro b hb;unfold execOp;simp only[ho];refine fC ?_;have ct:¬ fi.size=0:=by omega
  simp only[Instr.fieldAt,Sem.run_bind,run_underlying f.und,Result.andThen_ok,h1,Instr.sureAddr,hb,Sem.run_pure,fieldPlace,f'.sizeOf,if_neg ct]
 unfold Nao at h3;split at h3
 ·rename_i b off
  refine dB hR hd h3 hs fun hg _=>?_
  have hl:=eU hR hg h2;simp only[aB]at hl;refine⟨_,?_,bd _ hl.1⟩;simp only[bS,aB];exact⟨by rw[add_add],hl.2⟩
 ·rename_i l' sz i off
  refine dB hR hd h3 hs fun hg _=>?_
  have hl:=eU hR hg h2;simp only[aB]at hl;obtain⟨b,n,c,k',iv,h4,h5,h6,h7,h8⟩:=hl;refine⟨_,?_,bd _ h8⟩;simp only[bS,aB];exact⟨b,n,c,k',iv,h4,h5,h6,h7,by rw[add_add,Pbm]⟩
 ·cases h3
end
section
variable {P:Program} {E:Env} {F:bC} {σ:Nat->Option aN} {ρ:List D} {a:Act} {w w':World} {G:Gh} {g:Option (aI×Bool)} {o:Oper} {cf:Nat->List D->Option (List D)} {Q:Exit->Act->World->Prop} {next:Act->World->Prop}
theorem Ead (hR:R E.ntmps F σ ρ a w G)(hd:eO E.ntmps o)(hti:sM P E.ti){nv:Nat}{t:TypeId}{x i:Operand}(ho:o.op=.indexAddr t x i){ti ei:TI}{e:Nat}
  (hi:E.ti t=some ti) (he:ti.elem=some e) (xm:E.ti e=some ei) {res:bI}
  (h:(do
   let l <- rdL E g t x
   let s <- vJ l
   let a <- rdA E g 0 i
   bG (Nat.blt 0 ei.size)
   qH o g [.prim .inb [s.x,a] 0] (.one (.pe l ei.size a 0)) []:RdM bI).eval σ=some res) (hs:aJ cf ρ g nv res.lets):gD P E F σ ρ a w g o Q res.upd:=by
 obtain⟨info,u,f⟩:=aV (hti.ok _ _ hi);obtain⟨ia,u',f'⟩:=aV (hti.ok _ _ xm);obtain rfl:=nT f he;simp only[aA,Oby,aH]at h;obtain⟨l,h1,s,h2,y,h3,_,h4,h5⟩:=h;refine dB hR hd h5 hs fun hg ba=>?_
 obtain⟨ds,hp,-,-⟩:=step1 ba hg;have hl:=eU hR hg h1;have gj:=(dI hR h2 hl).rd;have hy:=iN hR hg h3;simp only[Pbn,Pbx]at hp;generalize hxv:s.x.val ρ=xv at hp gj;generalize xu:y.val ρ=yv at hp hy;cases xv<;>cases yv<;>simp only[aY.run]at hp<;>first|cases hp|skip
 rename_i sz rs k iv;split at hp
 ·rename_i hb
  obtain⟨A,b,n,c,vs,e1,e2,e3,e4,-⟩:=gj.inv;have hn:n≠0:=by omega
  have hA:A=some b:=e4.resolve_left hn;subst hA;refine⟨.pointer (some (b.add (iv.toNat*ei.size+0))),?_,?_⟩
  ·simp only[bS,aB]
   exact⟨b,n,c,k,iv,e1▸hl,xu,hb.1,by omega,rfl⟩
  ·unfold execOp
   simp only[ho];refine fC ?_;have aq:(0:Int)<=iv/\iv<(n:Int):=⟨hb.1,by rw[<- e2];exact hb.2⟩;simp only[Instr.indexAt,hy.int_inv,asIntOf,Sem.run_bind,Sem.run_pure,Result.andThen_ok,run_underlying f.und,e1,if_pos aq,f'.sizeOf,Nat.add_zero]
 ·cases hp
theorem Naw (hR:R E.ntmps F σ ρ a w G)(hd:eO E.ntmps o)(hti:sM P E.ti){nv:Nat}{t:TypeId}{x i:Operand}(ho:o.op=.index t x i){ti:TI}
  (hi:E.ti t=some ti) {res:bI}
  (h:(do
   bG ti.isStr
   let s <- rdA E g t x
   let a <- rdA E g 0 i
   qG o g nv .sidx [s,a]:RdM bI).eval σ=some res) (hs:aJ cf ρ g nv res.lets):gD P E F σ ρ a w g o Q res.upd:=by
 obtain⟨info,u,f⟩:=aV (hti.ok _ _ hi);simp only[aA,Oby,aH]at h;obtain⟨_,h0,x',h1,y,h2,h3⟩:=h;split at h0
 ·rename_i ba
  obtain rfl:=Aa1 f ba;refine cB hR hd h3 hs fun hg d hp=>?_
  have hx:=iN hR hg h1;have hy:=iN hR hg h2;simp only[Pbn,Pbx]at hp;generalize x'.val ρ=xv at hp hx;generalize y.val ρ=yv at hp hy;cases xv<;>cases yv<;>simp only[aY.run]at hp<;>first|cases hp|skip
  rename_i s k iv;split at hp
  ·rename_i h0i
   split at hp
   ·rename_i b hb
    simp only[Ob0,Qbf,and_true]at hp;subst hp;refine⟨_,.int _ _,?_⟩;unfold execOp;simp only[ho];refine fC ?_
    have e:(⟨s.toArray⟩:ByteArray)[iv.toNat]?=some b:=by
     have:iv.toNat<s.length:=by
      rcases Pbo iv.toNat s.length with h|h
      ·exact h
      ·rw[Qbr h]at hb;cases hb
     rw[getElem?_pos (⟨s.toArray⟩:ByteArray) iv.toNat (by simpa[ByteArray.size] using this)];rw[Ob5 this]at hb;rw[<- hb];rfl
    simp only[Instr.index,hy.int_inv,hx.str_inv,asIntOf,Sem.run_bind,Sem.run_pure,Result.andThen_ok,run_underlying f.und,if_pos h0i,e]
   ·cases hp
  ·cases hp
 ·cases h0
theorem vK (hR:R E.ntmps F σ ρ a w G)(hg:gOn ρ g=true):∀ {xs:List Operand} {ts:List TypeId} {og:List SV},(wN E g xs ts).eval σ=some og ->
  og.length=xs.length/\∀ (i:Nat) (sv:SV) (x:Operand),og[i]?=some sv->xs[i]?=some x->bS σ ρ G w sv (a.eval x)
 | [], ts, og, h => by
  simp only[wN,aF,Ob0]at h;subst h;simp
 | x :: xs, ts, og, h => by
  simp only[wN,aA,Oby,aF,Ob0]at h;obtain⟨sv,h1,l,h2,rfl⟩:=h;obtain⟨h3,h4⟩:=vK hR hg h2;refine⟨by simp[h3],fun i sv' x' hi hx=>?_⟩
  cases i with
  | zero =>
   simp only[Ob7,Ob0]at hi hx;subst hi hx;exact fI hR hg h1
  | succ i =>
   simp only[Pb4]at hi hx;exact h4 i sv' x' hi hx
theorem Aa9:∀ {og:List SV} {ls:List aM},rW og=some ls->ls.length=og.length/\∀ (i:Nat) (l:aM),ls[i]?=some l->og[i]?=some (.one l)
 | [], ls, h => by
  simp only[rW,Ob0]at h;subst h;simp
 | .one l :: r, ls, h => by
  simp only[rW,Pbc]at h;obtain⟨m,h1,rfl⟩:=h;obtain⟨h2,h3⟩:=Aa9 h1;refine⟨by simp[h2],fun i l' hi=>?_⟩
  cases i with
  |zero=>simp only[Ob7,Ob0]at hi ⊢;rw[hi]
  |succ i=>simp only[Pb4]at hi ⊢;exact h3 i l' hi
 |.dead::_,_,h=>by simp[rW]at h
 |.agg _::_,_,h=>by simp[rW]at h
 |.tup _::_,_,h=>by simp[rW]at h
theorem Gae (hR:R E.ntmps F σ ρ a w G)(hd:eO E.ntmps o){nv:Nat}{fn:FuncId}{first eN:Array Operand}(ho:o.op=.makeFunc (.func fn) first eN){res:bI}
  (h:(do
   bG first.isEmpty
   let vs <- wN E g eN.toList []
   let ls <- lU (rW vs)
   qH o g [] (.one (.clo fn ls)) []:RdM bI).eval σ=some res) (hs:aJ cf ρ g nv res.lets):gD P E F σ ρ a w g o Q res.upd:=by
 simp only[aA,Oby,aH,aT]at h;obtain⟨_,h0,og,h1,ls,uk,h2⟩:=h;split at h0
 ·rename_i hf
  refine dB hR hd h2 hs fun hg _=>⟨.func (.func fn) #[] (eN.map a.eval),?_,?_⟩
  ·obtain⟨h3,h4⟩:=vK hR hg h1
   simp only[bS,aB];obtain⟨h5,h6⟩:=Aa9 uk;refine⟨eN.toList.map a.eval,by rw[<- Array.toList_map,Array.toArray_toList],.of_get (by simp[h3,h5]) fun i l v hi hv=>?_⟩;simp only[Pbr,Pbc]at hv;obtain⟨x,hv,rfl⟩:=hv;exact h4 i _ x (h6 i l hi) hv
  ·unfold execOp
   simp only[ho];refine fC ?_;have:first=#[]:=by simpa using hf
   subst this;simp[Instr.makeFunc]
 ·cases h0
theorem Gad (hR:R E.ntmps F σ ρ a w G)(hd:eO E.ntmps o){nv:Nat}{x:Operand}(ho:o.op=.nilCheck x){res:bI}
  (h:(do
   match <- rdL E g 0 x with
   | .rp deps sz y => do
    let ds <- tF deps
    qH o g [.prim .ne [y] 0] (.one (.pe (.sn ds .no false y) sz (.c (.int .i64 0)) 0)) []
   |.px b off=>qH o g [] (.one (.px b off)) []
   |.pe l sz i off=>qH o g [] (.one (.pe l sz i off)) []
   |.clo f cs=>qH o g [] (.one (.clo f cs)) []
   |.pn=>qH o g [.prim .ne [.c (.rows 0 [])] 0] (.one (.pe (.sn [] .no false (.c (.rows 0 []))) 0 (.c (.int .i64 0)) 0)) []
   |_=>.no:RdM bI).eval σ=some res) (hs:aJ cf ρ g nv res.lets):gD P E F σ ρ a w g o Q res.upd:=by
 simp only[aA,Oby]at h;obtain⟨l,h1,h2⟩:=h
 have pk:∀ b,a.eval x=.pointer (some b)->(execOp a.eval o).run P w=.ok (.value (.pointer (some b))) w:=by
  intro b hb;unfold execOp;simp only[ho,hb];rfl
 split at h2
 ·rename_i deps sz y
  simp only[aA,Oby]at h2;obtain⟨ds,h3,h4⟩:=h2;refine dB hR hd h4 hs fun hg ba=>?_
  obtain⟨zs,hp,-,-⟩:=step1 ba hg;have hl:=eU hR hg h1;simp only[aB]at hl;obtain⟨sT,hv2,hv3⟩:=iG h3
  rcases hl.2 sT with ⟨e1,z,e2⟩|⟨b,row,e1,e2,e3⟩
  ·simp only[Pbn,Pbx,e2,aY.run]at hp
   simp at hp
  ·refine⟨.pointer (some b),?_,pk b e1⟩
   simp only[bS,aB];refine⟨b,1,1,.i64,0,⟨⟨rfl,fun z hz=>hl.1.2 z (hv2 z hz).1⟩,fun _=>⟨?_,by simp,trivial⟩⟩,rfl,by omega,by simp,by simp[Addr.add]⟩;rw[e2];exact e3.drop hR hv3
 ·rename_i b off
  refine dB hR hd h2 hs fun hg _=>?_
  have hl:=eU hR hg h1;have eW:=hl;simp only[aB]at eW;exact⟨_,hl,by rw[eW.1];exact pk _ eW.1⟩
 ·rename_i l' sz i off
  refine dB hR hd h2 hs fun hg _=>?_
  have hl:=eU hR hg h1;have eW:=hl;simp only[aB]at eW;obtain⟨b,n,c,k,iv,-,-,-,-,e⟩:=eW;exact⟨_,hl,by rw[e];exact pk _ e⟩
 ·rename_i f cs
  refine dB hR hd h2 hs fun hg _=>?_
  have hl:=eU hR hg h1;have eW:=hl;simp only[aB]at eW;obtain⟨vs,e,-⟩:=eW;refine⟨_,hl,?_⟩;unfold execOp;simp only[ho,e];rfl
 ·refine dB hR hd h2 hs fun hg ba=>?_
  obtain⟨zs,hp,-,-⟩:=step1 ba hg;simp[aI.val,aY.run]at hp
 ·cases h2
theorem Yad {op:BinOp}{x y:Value}{dx dy d:D}(hx:Sc x dx)(hy:Sc y dy)(h:Eb0 op dx dy=some d)(ju:op=.lss\/op=.gtr) :
  ∃ v,Sc v d/\(if op=.lss then Builtin.min2 x y else Builtin.max2 x y).run P w=.ok v w:=by
 unfold Eb0 at h;split at h
 ·rename_i k x' k' y'
  rw[hx.int_inv,hy.int_inv];split at h
  ·rename_i hk
   subst hk;obtain rfl:=Pbu h;refine⟨_,.int _ _,?_⟩
   rcases ju with rfl|rfl
   ·simp[Builtin.min2]
   ·simp[Builtin.max2]
  ·cases h
 ·cases h
theorem Par {op:BinOp}(ju:op=.lss\/op=.gtr):∀ {vs:List Value} {ds:List D} {x:Value} {dx d:D},Sc x dx->vs.length=ds.length->(∀ (i:Nat) (v:Value) (e:D),vs[i]?=some v->ds[i]?=some e->Sc v e) ->
  Jam op dx ds=some d->∃ v,Sc v d/\(vs.foldlM (fun a b=>if op=.lss then Builtin.min2 a b else Builtin.max2 a b) x).run P w=.ok v w
 | [], ds, x, dx, d, hx, hl, _, h => by
  obtain rfl:ds=[]:=Qbe (by simpa using hl.symm);simp only[Jam,Ob0]at h;subst h;exact⟨x,hx,rfl⟩
 | v :: vs, ds, x, dx, d, hx, hl, hg, h => by
  cases ds with
  |nil=>simp at hl
  | cons e es =>
   simp only[Jam,Oby]at h;obtain⟨z,h1,h2⟩:=h;obtain⟨u,h3,h4⟩:=Yad (P:=P) (w:=w) hx (hg 0 v e rfl rfl) h1 ju;obtain⟨r,h5,h6⟩:=Par ju (vs:=vs) (ds:=es) h3 (by simpa using hl) (fun i v' e' hi he=>hg (i+1) v' e' hi he) h2;refine⟨r,h5,?_⟩;rw[List.foldlM_cons,Sem.run_bind,h4];exact h6
theorem Ha3 (hg:gOn ρ g=true):∀ {ls:List aM} {xs:List aI},Fa2 g ls=some xs->xs.length=ls.length /\
  ∀ (i:Nat) (l:aM) (x:aI) (v:Value),ls[i]?=some l->xs[i]?=some x->aB σ ρ G w l v->Sc v (x.val ρ)
 | [], xs, h => by
  simp only[Fa2,Ob0]at h;subst h;simp
 | l :: ls, xs, h => by
  simp only[Fa2,Oby,Pbc]at h;obtain⟨x,h1,ys,h2,rfl⟩:=h;obtain⟨h3,h4⟩:=Ha3 hg h2;refine⟨by simp[h3],fun i l' x' v hi hx hl=>?_⟩
  cases i with
  | zero =>
   simp only[Ob7,Ob0]at hi hx;subst hi hx;exact iZ hg h1 hl
  | succ i =>
   simp only[Pb4]at hi hx;exact h4 i l' x' v hi hx hl
theorem gU (hR:R E.ntmps F σ ρ a w G)(hd:eO E.ntmps o){nv:Nat}{args:Array Operand}{argTypes:Array TypeId}{b:Builtin}{p:aY}{op:BinOp}
  (hb:(b=.min/\p=.min/\op=.lss)\/(b=.max/\p=.max/\op=.gtr))
  (ho:o.op=.call { callee:=.builtin b,args,argTypes }) {og:List SV} {ts:List TypeId} {ls:List aM} {xs:List aI} {res:bI}
  (h1:(wN E g args.toList ts).eval σ=some og) (h2:rW og=some ls) (h3:Fa2 g ls=some xs)
  (h:(qG o g nv p xs).eval σ=some res) (hs:aJ cf ρ g nv res.lets):gD P E F σ ρ a w g o Q res.upd:=by
 refine cB hR hd h hs fun hg d hp=>?_
 obtain⟨h4,h5⟩:=vK hR hg h1;obtain⟨h6,h7⟩:=Aa9 h2;obtain⟨h8,h9⟩:=Ha3 (σ:=σ) (ρ:=ρ) (G:=G) (w:=w) hg h3
 have cE:∀ (i:Nat) (v:Value) (e:D),(args.toList.map a.eval)[i]?=some v->(xs.map (·.val ρ))[i]?=some e->Sc v e:=by
  intro i v e hv he;simp only[Pbr,Pbc]at hv he;obtain⟨x,hx,rfl⟩:=hv;obtain⟨y,hy,rfl⟩:=he
  have aq:i<ls.length:=by
   rw[<- h8];exact (Ob2.1 hy).1
  have hl:ls[i]?=some ls[i]:=Ob5 aq;exact h9 i _ y _ hl hy (h5 i _ x (h7 i _ hl) hx)
 have hlen:(args.toList.map a.eval).length=(xs.map (·.val ρ)).length:=by
  simp only[Pbt];omega
 generalize kd:args.toList.map a.eval=vs at cE hlen;generalize hes:xs.map (·.val ρ)=es at cE hlen hp
 have dj:args.map a.eval=vs.toArray:=by
  apply Sbc;simpa using kd
 cases es with
 |nil=>rcases hb with ⟨-,rfl,-⟩ | ⟨-,rfl,-⟩<;>simp[aY.run]at hp
 | cons e es =>
  cases vs with
  |nil=>simp at hlen
  | cons v vs =>
   have hf:Jam op e es=some d:=by
    rcases hb with ⟨-,rfl,rfl⟩|⟨-,rfl,rfl⟩<;>simpa[aY.run] using hp
   obtain⟨r,cd,db⟩:=Par (P:=P) (w:=w) (op:=op) (by rcases hb with ⟨-,-,rfl⟩|⟨-,-,rfl⟩<;>simp) (cE 0 v e rfl rfl) (by simpa using hlen)
    (fun i v' e' hi he=>cE (i+1) v' e' hi he) hf
   refine⟨r,cd,?_⟩
   rcases hb with ⟨rfl,rfl,rfl⟩|⟨rfl,rfl,rfl⟩
   ·refine kQ ho (s:=Builtin.min_ argTypes o.type (args.map a.eval)) (fun _=>rfl) ?_
    rw[dj];simpa[Builtin.min_] using db
   ·refine kQ ho (s:=Builtin.max_ argTypes o.type (args.map a.eval)) (fun _=>rfl) ?_
    rw[dj];simpa[Builtin.max_] using db
end
section
variable {P:Program} {E:Env} {F:bC} {σ:Nat->Option aN} {ρ:List D} {a:Act} {w w':World} {G:Gh} {g:Option (aI×Bool)} {o:Oper} {cf:Nat->List D->Option (List D)} {Q:Exit->Act->World->Prop} {next:Act->World->Prop}
def Scs (vs:List Value)(ds:List D):Prop:=vs.length=ds.length/\∀ (i:Nat) (v:Value) (d:D),vs[i]?=some v->ds[i]?=some d->Sc v d
theorem Scs.drop {vs:List Value}{ds:List D}(h:Scs vs ds)(k:Nat):Scs (vs.drop k) (ds.drop k) :=
 ⟨by simp[h.1],fun i v d hv hd=>by rw[Pb7]at hv hd;exact h.2 _ v d hv hd⟩
theorem Scs.take {vs:List Value}{ds:List D}(h:Scs vs ds)(k:Nat):Scs (vs.take k) (ds.take k) :=
 ⟨by simp[h.1],fun i v d hv hd=>by
  rw[Qbd]at hv hd;split at hv
  ·rename_i hk
   rw[if_pos hk]at hd;exact h.2 _ v d hv hd
  ·cases hv⟩
theorem Fak:∀ {ks ls:List Nat} {a b c d:List D},a.length=ks.length->b.length=ks.length->∀ {r:Bool},Nad (ks++ls) (a++c) (b++d)=some r ->
  ∃ r1,Nad ks a b=some r1/\(r1=true->Nad ls c d=some r)/\(r1=false->r=false)
 |[],ls,[],[],c,d,_,_,r,h=>⟨true,rfl,fun _=>h,fun h=>by cases h⟩
 | k :: ks, ls, x :: a, y :: b, c, d, h1, h2, r, h => by
  simp only[Qb2,Nad,Oby]at h;obtain⟨e,h3,h4⟩:=h
  cases e with
  | true =>
   simp only[if_true]at h4;obtain⟨r1,h5,h6,h7⟩:=Fak (by simpa using h1) (by simpa using h2) h4;exact⟨r1,by simp[Nad,h3,h5],h6,h7⟩
  | false =>
   simp only[Ob9,if_false,Ob0]at h4;exact⟨false,by simp[Nad,h3],(fun h=>by cases h),fun _=>h4.symm⟩
 |[],_,_::_,_,_,_,h,_,_,_=>by simp at h
 |[],_,[],_::_,_,_,_,h,_,_=>by simp at h
 |_::_,_,[],_,_,_,h,_,_,_=>by simp at h
 |_::_,_,_::_,[],_,_,_,h,_,_=>by simp at h
theorem Fbf (l m:List UInt8):((⟨l.toArray⟩:ByteArray)==⟨m.toArray⟩)=(l==m):=by
 have:((⟨l.toArray⟩:ByteArray)==⟨m.toArray⟩)=(l.toArray==m.toArray):=rfl;rw[this];simp
theorem Obs {x y:D}{r:Bool}(h:eqD 0 x y=some r):∃ k i j,x=.int k i/\y=.int k j/\r=(i==j):=by
 cases x<;>cases y<;>simp only[eqD]at h<;>first|cases h|skip
 split at h
 ·rename_i e
  subst e;exact⟨_,_,_,rfl,rfl,(Pbu h).symm⟩
 ·cases h
theorem Obr {x y:D}{r:Bool}(h:eqD 1 x y=some r):∃ i j,x=.bool i/\y=.bool j/\r=(i==j):=by
 cases x<;>cases y<;>simp only[eqD]at h<;>first|(cases h;done)|skip
 exact⟨_,_,rfl,rfl,(Pbu h).symm⟩
theorem Obq {x y:D}{r:Bool}(h:eqD 2 x y=some r):∃ i j,x=.str i/\y=.str j/\r=(i==j):=by
 cases x<;>cases y<;>simp only[eqD]at h<;>first|(cases h;done)|skip
 exact⟨_,_,rfl,rfl,(Pbu h).symm⟩
theorem Jbl {x y:D}{r:Bool}(h:eqD 3 x y=some r):False:=by
 cases x<;>cases y<;>simp[eqD]at h
theorem Jbk {t:TypeId}{x y:Value}{dx dy:D}{b:Bool}(hx:Sc x dx)(hy:Sc y dy)(h:eqD (Cah (mD P t)) dx dy=some b)(n:Nat):(Op.equalIn (n+1) t x y).run P w=.ok b w:=by
 unfold mD at h;split at h
 ·rename_i k hu
  obtain⟨k1,i,j,rfl,rfl,rfl⟩:=Obs h;simp[Op.equalIn,run_underlying hu,hx.int_inv,hy.int_inv]
 ·rename_i hu
  obtain⟨i,j,rfl,rfl,rfl⟩:=Obr h;simp[Op.equalIn,run_underlying hu,hx.bool_inv,hy.bool_inv]
 ·rename_i hu
  obtain⟨l,m,rfl,rfl,rfl⟩:=Obq h;simp only[Op.equalIn,run_underlying hu,hx.str_inv,hy.str_inv,Sem.run_bind,Result.andThen_ok,Sem.run_pure];rw[Fbf]
 ·exact (Jbl h).elim
 ·exact (Jbl h).elim
 ·exact (Jbl h).elim
def oC (P:Program)(t:TypeId)(vs:List Value)(v:Value):Prop:=match P.underlying t with
 |some (.struct _)=>v=.agg vs.toArray
 |_=>vs=[v]
theorem Mac (P:Program)(d:Nat):∀ (fs:List Field) (acc l:List TypeId),fs.foldl (fun acc f=>acc.bind fun l=>(flat P d f.type).bind fun m=>bif Nat.beq f.offset l.length then some (l++m) else none) (some acc)=some l ->
  ∃ ls,l=acc++ls/\(∀ f r,fs=f::r->∃ m,flat P d f.type=some m/\f.offset=acc.length/\∃ jn,ls=m++jn/\r.foldl (fun acc f=>acc.bind fun l=>(flat P d f.type).bind fun m=>bif Nat.beq f.offset l.length then some (l++m) else none) (some (acc++m))=some l)/\(fs=[]->ls=[])
 | [], acc, l, h => by
  simp only[List.foldl_nil,Ob0]at h;exact⟨[],by simp[h],by simp,fun _=>rfl⟩
 | f :: r, acc, l, h => by
  simp only[List.foldl_cons,Ob6]at h
  cases hm:flat P d f.type with
  | none =>
   rw[hm]at h;simp only[Option.bind_none]at h
   have:∀ (r:List Field),r.foldl (fun acc f=>acc.bind fun l=>(flat P d f.type).bind fun m=>bif Nat.beq f.offset l.length then some (l++m) else none) (none:Option (List TypeId))=none:=by
    intro r
    induction r with
    |nil=>rfl
    |cons _ _ ih=>simpa using ih
   rw[this]at h;cases h
  | some m =>
   rw[hm]at h;simp only[Ob6]at h
   cases ho:Nat.beq f.offset acc.length with
   | false =>
    rw[ho]at h;simp only[cond_false]at h
    have:∀ (r:List Field),r.foldl (fun acc f=>acc.bind fun l=>(flat P d f.type).bind fun m=>bif Nat.beq f.offset l.length then some (l++m) else none) (none:Option (List TypeId))=none:=by
     intro r
     induction r with
     |nil=>rfl
     |cons _ _ ih=>simpa using ih
    rw[this]at h;cases h
   | true =>
    rw[ho]at h;simp only[cond_true]at h;obtain⟨ls,h1,-,-⟩:=Mac P d r (acc++m) l h;refine⟨m++ls,by rw[h1,List.append_assoc],fun f' r' e=>?_,by simp⟩;obtain⟨rfl,rfl⟩:=Sbd e;exact⟨m,hm,by simpa using ho,ls,rfl,h⟩
theorem rO {α:Type}(l:List α)(k m:Nat):(l.drop k).take m++l.drop (k+m)=l.drop k:=by
 rw[<- List.drop_drop,List.take_append_drop]
theorem Aal {t:TypeId}{d:Nat}{m:List TypeId}(hm:flat P d t=some m)(hs:Ibk P d t=true)(hc:Jat P d t=true){vs:List Value}{off:Nat}(hl:off+m.length<=vs.length) :
  ∃ v,oC P t ((vs.drop off).take m.length) v/\(part t vs.toArray off).run P w=.ok v w:=by
 unfold Ibk at hs;rw[hm]at hs
 cases hi:P.info? t with
 |none=>rw[hi]at hs;cases hs
 | some i =>
  rw[hi]at hs;simp only[Pbq]at hs
  cases d with
  |zero=>cases hc
  | succ d =>
   simp only[Jat]at hc;simp only[flat]at hm
   cases hu:P.underlying t with
   |none=>rw[hu]at hm;cases hm
   | some u =>
    unfold oC;rw[hu]at hc hm ⊢;simp only[part,Sem.run_bind,Ka3 hu,Result.andThen_ok,run_sizeOf hi,Sem.run_ite];cases u<;>first|(cases hc;done)|skip
    case struct fs =>
     refine⟨_,rfl,?_⟩;simp only[Gap,if_true,Sem.run_bind,run_sizeOf hi,Result.andThen_ok,Sem.run_pure,<- hs];congr 2;apply Sbc;simp[List.extract_eq_take_drop]
    all_goals
     simp only[Ob0]at hm;subst hm;have aq:off<vs.length:=by simp only[Qbk]at hl;omega
     refine⟨vs[off],?_,?_⟩
     ·simp only[Qbk]
      rw[List.drop_eq_getElem_cons aq];rfl
     ·simp[Gap,Ob5 aq]
theorem Faj (P:Program)(w:World):∀ (d:Nat) (t:TypeId) (l:List TypeId),Jat P d t=true->flat P d t=some l->∀ (xs ys:List Value) (dx dy:List D) (b:Bool) (x y:Value),
  Scs xs dx->Scs ys dy->xs.length=l.length->ys.length=l.length->oC P t xs x->oC P t ys y->Nad (l.map fun t=>Cah (mD P t)) dx dy=some b ->
  ∀ n,d<=n->(Op.equalIn n t x y).run P w=.ok b w
 |0,t,l,hc,_=>by cases hc
 | d + 1, t, l, hc, hf => by
  intro xs ys dx dy b x y hx hy vz hly tW tG he n hn;obtain⟨n,rfl⟩:∃ m,n=m+1:=⟨n-1,by omega⟩
  have tR:(∀ fs,P.underlying t≠some (.struct fs))->flat P (d+1) t=some [t]->(Op.equalIn (n+1) t x y).run P w=.ok b w:=by
   intro vk hft;rw[hf]at hft;obtain rfl:=Pbu hft
   have h1:xs=[x]:=by
    unfold oC at tW;split at tW
    ·rename_i fs hu;exact absurd hu (vk fs)
    ·exact tW
   have h2:ys=[y]:=by
    unfold oC at tG;split at tG
    ·rename_i fs hu;exact absurd hu (vk fs)
    ·exact tG
   subst h1 h2
   match dx,dy,hx.1,hy.1 with
   | [dx], [dy], _, _ =>
    simp only[Pbn,Pbx,Nad,Oby]at he;obtain⟨e,h3,h4⟩:=he;have:e=b:=by cases e<;>simpa using h4
    subst this;exact Jbk (hx.2 0 x dx rfl rfl) (hy.2 0 y dy rfl rfl) h3 n
  simp only[Jat]at hc;simp only[flat]at hf
  cases hu:P.underlying t with
  |none=>rw[hu]at hc;cases hc
  | some u =>
   rw[hu]at hc hf;cases u<;>first|(cases hc;done)|skip
   case struct fs =>
    simp only[Obz,Pbs,Pbv]at hc;obtain⟨wi,cE⟩:=hc;have sh:x=.agg xs.toArray:=by unfold oC at tW;rw[hu]at tW;exact tW
    have uj:y=.agg ys.toArray:=by unfold oC at tG;rw[hu]at tG;exact tG
    subst sh uj;have hfs:P.fieldsOf t=fs:=by simp[Program.fieldsOf,hu]
    rw[run_equalIn_struct (P:=P) w n t _ _ (by rw[hfs];exact hu) wi,hfs];dsimp only at hf;generalize hgl:fs.toList=gs at hf cE
    have key : ∀ (gs : List Field) (acc : List TypeId) (b : Bool), (∀ f ∈ gs, (f.name != "_") = true /\ Jat P d f.type = true /\ Ibk P d f.type = true) ->
      gs.foldl (fun acc f=>acc.bind fun l=>(flat P d f.type).bind fun m=>bif Nat.beq f.offset l.length then some (l++m) else none) (some acc)=some l ->
      Nad ((l.drop acc.length).map fun t=>Cah (mD P t)) (dx.drop acc.length) (dy.drop acc.length)=some b ->
      (Op.eqFields n xs.toArray ys.toArray gs).run P w=.ok b w:=by
     intro gs
     induction gs with
     | nil =>
      intro acc b _ pw hq;simp only[List.foldl_nil,Ob0]at pw;subst pw;have e1:dx.drop acc.length=[]:=List.drop_of_length_le (by rw[<- hx.1];omega);have e2:dy.drop acc.length=[]:=List.drop_of_length_le (by rw[<- hy.1];omega);simp only[List.drop_length,Pbx,e1,e2,Nad,Ob0]at hq;subst hq;simp[Op.eqFields]
     | cons f r ih =>
      intro acc b qx pw hq;obtain⟨ls,e1,h1,-⟩:=Mac P d (f::r) acc l pw;obtain⟨m,hm,pd,jn,e2,xt⟩:=h1 f r rfl;obtain⟨hname,u9,dm⟩:=qx f Pbf;have hlen:acc.length+m.length<=l.length:=by rw[e1,e2];simp
      have hdl:l.drop acc.length=m++jn:=by rw[e1,e2];simp
      rw[hdl,Rbs]at hq;rw[<- rO dx acc.length m.length,<- rO dy acc.length m.length]at hq
      have oq:((dx.drop acc.length).take m.length).length=(m.map fun t=>Cah (mD P t)).length:=by
       simp only[Qbs,Rba,Pbt,<- hx.1];omega
      have k9:((dy.drop acc.length).take m.length).length=(m.map fun t=>Cah (mD P t)).length:=by
       simp only[Qbs,Rba,Pbt,<- hy.1];omega
      obtain⟨r1,h2,h3,h4⟩:=Fak oq k9 hq;obtain⟨vx,hvx,hpx⟩:=Aal (w:=w) hm dm u9 (vs:=xs) (off:=acc.length) (by omega);obtain⟨vy,hvy,hpy⟩:=Aal (w:=w) hm dm u9 (vs:=ys) (off:=acc.length) (by omega)
      have heq:=Faj P w d f.type m u9 hm _ _ _ _ r1 vx vy ((hx.drop _).take _) ((hy.drop _).take _) (by simp only[Qbs,Rba];omega)
       (by simp only[Qbs,Rba];omega) hvx hvy h2 n (by omega)
      have hname' : f.name ≠ "_" := by simpa using hname
      rw[Op.eqFields];simp only[if_pos hname',Sem.run_bind,pd,hpx,hpy,heq,Result.andThen_ok]
      cases r1 with
      | false =>
       obtain rfl:=h4 rfl;simp
      | true =>
       have:=ih (acc++m) b (fun f' zd=>qx f' (Pbb _ zd)) xt (by
        rw[List.length_append,<- List.drop_drop,hdl];simpa using h3 rfl)
       simpa using this
    exact key gs [] b (fun f zd=>by
     have:=cE f zd;exact⟨this.1.1,this.1.2,this.2⟩) hf (by simpa using he)
   all_goals exact tR (by intro fs e;rw[hu]at e;cases e) (by simp[flat,hu])
theorem Fa1:∀ {ls:List aM} {xs:List aI} {vs:List Value},atoms ls=some xs->aG σ ρ G w ls vs->Scs vs (xs.map (·.val ρ))/\xs.length=ls.length
 | [], xs, vs, h, hl => by
  simp only[atoms,Ob0]at h;simp only[aG]at hl;subst h hl;exact⟨⟨rfl,by simp⟩,rfl⟩
 | l :: ls, xs, vs, h, hl => by
  cases l<;>simp only[atoms]at h<;>first|(cases h;done)|skip
  simp only[Pbc]at h;obtain⟨ys,h1,rfl⟩:=h;simp only[aG]at hl;obtain⟨u,us,rfl,h2,h3⟩:=hl;obtain⟨⟨h4,h5⟩,h6⟩:=Fa1 h1 h3;refine⟨⟨by simpa using h4,fun i v d hv hd=>?_⟩,by simp[h6]⟩
  cases i with
  | zero =>
   simp only[Ob7,Pbn,Ob0]at hv hd;subst hv hd;simpa[aB] using h2
  | succ i =>
   simp only[Pbn,Pb4]at hv hd;exact h5 i v d hv hd
theorem Eaf (hR:R E.ntmps F σ ρ a w G)(hd:eO E.ntmps o){nv:Nat}{p:aY}{xs:List aI}{neg:Bool}{op:BinOp}{t ty:TypeId}{x y:Operand}
  (ho:o.op=.binOp op t x y ty) (ju:op=if neg then .neq else .eql) {res:bI}
  (h:(RdM.ret ⟨[.prim p xs 1]++(bif neg then [.prim .not [.v nv] 1] else []),match o.dst with|some d=>[(kT d,aN.slot none (mkS g (.v (bif neg then nv+1 else nv))))]|none=>[]⟩:RdM bI).eval σ=some res)
  (hs:aJ cf ρ g nv res.lets)
  (hv:gOn ρ g=true->∀ d,p.run (xs.map (·.val ρ))=some [d]->∃ b,d=.bool b/\(eqGuard op t x y (a.eval x) (a.eval y)).run P w=.ok () w /\
   (binOp op t (a.eval x) (a.eval y)).run P w=.ok (.bool (if neg then !b else b)) w):gD P E F σ ρ a w g o Q res.upd:=by
 simp only[aF,Ob0]at h;subst h;simp only[Cam]
 cases neg with
 | false =>
  simp only[cond_false,Pbz]at hs ⊢;refine⟨fun hg=>?_,fun hg=>Bbl hR hd hg (Da7 hs hg)⟩;obtain⟨d,h1,h2⟩:=fF hs hg;obtain⟨b,rfl,h3,h4⟩:=hv hg d h1;refine Iap hR hd hg (v:=.bool b) ?_ (by rw[h2];exact .bool _);unfold execOp;simp only[ho];refine fC ?_;rw[Sem.run_bind,h3];exact h4
 | true =>
  simp only[cond_true]at hs ⊢;have nn:aJ cf ρ g nv [.prim p xs 1]:=⟨hs.1,trivial⟩;have l7:aJ cf ρ g (nv+1) [.prim .not [.v nv] 1]:=⟨hs.2.1,trivial⟩;refine⟨fun hg=>?_,fun hg=>Bbl hR hd hg (Da7 l7 hg)⟩;obtain⟨d,h1,h2⟩:=fF nn hg;obtain⟨e,h5,h6⟩:=fF l7 hg;obtain⟨b,rfl,h3,h4⟩:=hv hg d h1;simp only[Pbn,Pbx,h2,aY.run,Ob0,Qbf,and_true]at h5;subst h5;refine Iap hR hd hg (v:=.bool (!b)) ?_ (by rw[h6];exact .bool _);unfold execOp;simp only[ho];refine fC ?_;rw[Sem.run_bind,h3];exact h4
theorem yR {neg:Bool}{op:BinOp}(ju:op=if neg then .neq else .eql){t:TypeId}{x y:Value}{b:Bool}(h:(Op.equal t x y).run P w=.ok b w)
  (hx:∀ k n,x≠.int k n) (hs:∀ s,x≠.string s) (hf:∀ k b,x≠.float k b) (hc:∀ k r i,x≠.complex k r i):(binOp op t x y).run P w=.ok (.bool (if neg then !b else b)) w:=by
 cases neg with
 | false =>
  simp only[Ob9,if_false]at ju;subst ju;unfold binOp
  cases x<;>first
   |exact absurd rfl (hx _ _)
   |exact absurd rfl (hs _)
   |exact absurd rfl (hf _ _)
   |exact absurd rfl (hc _ _ _)
   |(cases y<;>simp[h])
 | true =>
  simp only[if_true]at ju;subst ju;unfold binOp
  cases x<;>first
   |exact absurd rfl (hx _ _)
   |exact absurd rfl (hs _)
   |exact absurd rfl (hf _ _)
   |exact absurd rfl (hc _ _ _)
   |(cases y<;>simp[h])
theorem lX {op:BinOp}{t:TypeId}{x y:Operand}{u v:Value}(h1:u≠.nilIface)(h2:(∀ c,u≠.agg c)\/P.eqGuardType P.depth t=false):(eqGuard op t x y u v).run P w=.ok () w:=by
 unfold eqGuard
 rcases h2 with h2|h2
 ·cases op<;>cases u<;>cases v<;>first|rfl|exact absurd rfl h1|exact absurd rfl (h2 _)
 ·cases op<;>cases u<;>cases v<;>first|rfl|exact absurd rfl h1|simp[h2]
theorem Zat {t:TypeId}{i:TI}{info:TypeInfo}{u:TypeDesc}(f:bV P t i info u)(h:i.isBool=true):u=.bool:=by
 have:Oam u=true:=by rw[<- h,f.eq];rfl
 unfold Oam at this;split at this
 ·rfl
 ·cases this
theorem Bbh {t:TypeId}{i:TI}{info:TypeInfo}{u:TypeDesc}(f:bV P t i info u)(h:i.isPtr=true):∃ e,u=.pointer e:=by
 have:Uaz u=true:=by rw[<- h,f.eq];rfl
 unfold Uaz at this;split at this
 ·exact⟨_,rfl⟩
 ·cases this
theorem Uac {neg:Bool}{op:BinOp}(h:op=if neg then .neq else .eql):(bif neg then BinOp.neq else .eql)=op:=by cases neg<;>simp[h]
theorem Iar {t:TypeId}{ti:TI}{info:TypeInfo}{u:TypeDesc}(f:bV P t ti info u)(pr:ti.cmp=true){xs ys:List Value}{dx dy:List D}{b:Bool}(hx:Scs xs dx)(hy:Scs ys dy)
  (vz:xs.length=ti.size) (hly:ys.length=ti.size) (h:Nad (ti.cells.map Cah) dx dy=some b) :
  (Op.equal t (.agg xs.toArray) (.agg ys.toArray)).run P w=.ok b w/\P.eqGuardType P.depth t=false:=by
 have hc:ti.cmp=(Gap u&&Jat P 12 t&&!(P.eqGuardType P.depth t)):=by rw[f.eq];rfl
 rw[hc]at pr;simp only[Obz,Pbs]at pr;obtain⟨⟨kO,qx⟩,xp⟩:=pr;have fX:=f.cells;simp only[Pbc]at fX;obtain⟨l,oq,k9⟩:=fX;have hlen:=f.len;rw[<- k9]at hlen h;simp only[Pbt]at hlen;rw[List.map_map]at h
 have ba:∃ fs,u=.struct fs:=by
  have hu:=f.und;simp only[Jat,hu]at qx;cases u<;>first|(cases kO;done)|(cases qx;done)|exact⟨_,rfl⟩
 obtain⟨fs,rfl⟩:=ba;refine⟨?_,xp⟩;exact Faj P w 12 t l qx oq xs ys dx dy b _ _ hx hy (by omega) (by omega) (by unfold oC;rw[f.und]) (by unfold oC;rw[f.und]) h 10000 (by omega)
theorem Vao {t:TypeId}(hu:P.underlying t=some .bool)(b c:Bool)(n:Nat):(Op.equalIn (n+1) t (.bool b) (.bool c)).run P w=.ok (b==c) w:=by
 simp[Op.equalIn,run_underlying hu]
theorem Ya4 {t e:TypeId}(hu:P.underlying t=some (.slice e))(x y p q:Nat)(n:Nat):(Op.equalIn (n+1) t (.slice none x y) (.slice none p q)).run P w=.ok true w:=by
 simp[Op.equalIn,run_underlying hu]
theorem Van {t e:TypeId}(hu:P.underlying t=some (.slice e))(a:Addr)(x y p q:Nat)(n:Nat):(Op.equalIn (n+1) t (.slice (some a) x y) (.slice none p q)).run P w=.ok false w:=by
 simp[Op.equalIn,run_underlying hu]
theorem Ya3 {t e:TypeId}(hu:P.underlying t=some (.pointer e))(A:Option Addr)(n:Nat):(Op.equalIn (n+1) t (.pointer A) (.pointer none)).run P w=.ok A.isNone w:=by
 cases A<;>simp[Op.equalIn,run_underlying hu]
theorem Pam (hR:R E.ntmps F σ ρ a w G)(hd:eO E.ntmps o)(hti:sM P E.ti){nv:Nat}{neg:Bool}{op:BinOp}{t ty:TypeId}{x y:Operand}
  (ho:o.op=.binOp op t x y ty) (ju:op=if neg then .neq else .eql) {res:bI}
  (h:(Ibl E nv o g neg t x y).eval σ=some res) (hs:aJ cf ρ g nv res.lets):gD P E F σ ρ a w g o Q res.upd:=by
 unfold Ibl at h;simp only[aA,Oby]at h;obtain⟨va,h1,vb,h2,h3⟩:=h;split at h3
 ·
  rename_i ls ms;simp only[aA,Oby,tiR,aT]at h3;obtain⟨ti,hi,h4⟩:=h3;obtain⟨info,u,f⟩:=aV (hti.ok _ _ hi);split at h4
  ·rename_i xs ys oY xn
   simp only[aA,Oby,aH]at h4;obtain⟨_,h5,h6⟩:=h4;split at h5
   ·rename_i hb
    simp only[Obz,Pbq]at hb;obtain⟨⟨pr,vz⟩,hly⟩:=hb;refine Eaf hR hd ho ju h6 hs fun hg d hp=>?_
    obtain⟨vx,ex,a3f⟩:=fI hR hg h1;obtain⟨vy,ey,a4q⟩:=fI hR hg h2;obtain⟨nx,nc⟩:=Fa1 oY a3f;obtain⟨yy,hy2⟩:=Fa1 xn a4q;have jx:(ti.cells.map Cah).length=xs.length:=by rw[Pbt,f.len];omega
    simp only[aY.run,jx,Rbs,Pbt,Pbc,Qbf,and_true]at hp;obtain⟨b,hp,rfl⟩:=hp;rw[List.take_left' (by simp),List.drop_left' (by simp)]at hp;have a2h:=nx.1;have a3s:=yy.1;simp only[Pbt]at a2h a3s;obtain⟨h7,h8⟩:=Iar (w:=w) f pr nx yy (by omega) (by omega) hp;refine⟨b,rfl,?_,?_⟩
    ·rw[ex];exact lX (by simp) (.inr h8)
    ·rw[ex,ey];exact yR ju h7 (by simp) (by simp) (by simp) (by simp)
   ·cases h5
  ·cases h4
 ·rename_i l m
  simp only[aA,Oby,tiR,aT]at h3;obtain⟨ti,hi,h4⟩:=h3;obtain⟨info,u,f⟩:=aV (hti.ok _ _ hi);split at h4
  ·
   rename_i p q hp hq;rw[gG]at h4;have hx:gOn ρ g=true->Sc (a.eval x) (p.val ρ):=fun hg=>iZ hg hp (fI hR hg h1)
   have hy:gOn ρ g=true->Sc (a.eval y) (q.val ρ):=fun hg=>iZ hg hq (fI hR hg h2)
   split at h4
   ·rename_i a0w
    obtain rfl:=Zat f a0w;refine cB hR hd h4 hs fun hg d oA=>?_
    have hx:=hx hg;have hy:=hy hg;simp only[Pbn,Pbx]at oA;generalize p.val ρ=pv at hx oA;generalize q.val ρ=qv at hy oA;cases pv<;>cases qv<;>simp only[aY.run]at oA<;>first|(cases oA;done)|skip
    rename_i b c;simp only[Ob0,Qbf,and_true]at oA;subst oA;refine⟨.bool (if neg then !(b==c) else b==c),.bool _,?_⟩;unfold execOp;simp only[ho,hx.bool_inv,hy.bool_inv];refine fC ?_;rw[Sem.run_bind,lX (by simp) (.inl (by simp))]
    have he:(Op.equal t (.bool b) (.bool c)).run P w=.ok (b==c) w:=by
     unfold Op.equal Op.maxDepth;exact Vao f.und b c 9999
    exact yR ju he (by simp) (by simp) (by simp) (by simp)
   ·rw[Uac ju]at h4
    exact Kaw hR hd ho hx hy h4 hs
  ·rw[gG]at h4
   split at h4
   ·
    rename_i fL;simp only[aA,Oby,aH]at h4;obtain⟨_,h5,s,h6,r0,h8,h7⟩:=h4;split at h5
    ·rename_i so
     obtain⟨e,rfl⟩:=Fal f so
     have oi:aJ cf ρ g nv r0.lets->(gOn ρ g=true->∀ z,s.x.val ρ=.rows z []->s.nie=true)->gD P E F σ ρ a w g o Q r0.upd:=by
      intro hs ct;refine Eaf hR hd ho ju h8 hs fun hg d hp=>?_
      have gj:=dI hR h6 (fI hR hg h1);simp only[Pbn,Pbx]at hp;have gA:=gj.rd;have sA:∀ z,s.x.val ρ=.rows z []->a.eval x=.slice none 0 0:=fun z hz=>gj.nie (ct hg z hz) z hz
      generalize s.x.val ρ=sv at hp gA sA;cases sv<;>simp only[aY.run]at hp<;>first|(cases hp;done)|skip
      rename_i sz rs;simp only[Ob0,Qbf,and_true]at hp;subst hp;obtain⟨A,b,n,c,vs,e1,e2,e3,e4,-⟩:=gA.inv
      have hy:∃ n' c',a.eval y=.slice none n' c':=by
       unfold Hau at fL;split at fL
       ·rename_i n' c';exact⟨n',c',rfl⟩
       ·cases fL
      obtain⟨n',c',hy⟩:=hy;refine⟨rs.isEmpty,rfl,?_,?_⟩
      ·rw[e1];exact lX (by simp) (.inl (by simp))
      ·have he:(Op.equal t (a.eval x) (a.eval y)).run P w=.ok rs.isEmpty w:=by
        unfold Op.equal Op.maxDepth
        cases wz:rs with
        | nil =>
         rw[sA sz (by rw[wz]),hy];exact Ya4 f.und _ _ _ _ 9999
        | cons r rs' =>
         have:A=some b:=e4.resolve_left (by rw[<- e2,wz];simp);rw[e1,hy,this];exact Van f.und _ _ _ _ _ 9999
       rw[e1]at he ⊢;exact yR ju he (by simp) (by simp) (by simp) (by simp)
     simp only[aF,Ob0]at h7;subst h7
     cases hnie:s.nie with
     | true =>
      rw[hnie]at hs;exact oi hs fun _ _ _=>hnie
     | false =>
      rw[hnie]at hs;refine oi hs.2 fun hg z hz=>?_
      obtain⟨ds,h9,-⟩:=hs.1.1 hg;simp only[Pbn,Pbx]at h9;rw[hz]at h9;simp[aY.run]at h9
    ·cases h5
   ·rw[gG]at h4
    split at h4
    ·
     rename_i fL;simp only[aA,Oby,aH]at h4;obtain⟨_,h5,h6⟩:=h4;split at h5
     ·rename_i hpt
      obtain⟨e,rfl⟩:=Bbh f hpt
      have hy:a.eval y=.pointer none:=by
       unfold Qad at fL;split at fL
       ·rfl
       ·cases fL
      have heq:∀ A,a.eval x=.pointer A->(Op.equal t (a.eval x) (a.eval y)).run P w=.ok A.isNone w:=by
       intro A hA;unfold Op.equal Op.maxDepth;rw[hA,hy];exact Ya3 f.und A 9999
      have bd:∀ A,a.eval x=.pointer A->(eqGuard op t x y (a.eval x) (a.eval y)).run P w=.ok () w/\(binOp op t (a.eval x) (a.eval y)).run P w=.ok (.bool (if neg then !A.isNone else A.isNone)) w:=by
       intro A hA;refine⟨by rw[hA];exact lX (by simp) (.inl (by simp)),?_⟩;have:=heq A hA;rw[hA]at this ⊢;exact yR ju this (by simp) (by simp) (by simp) (by simp)
      have hconst:∀ (c:Bool) (nvx:Nat),(qG o g nv .id [.c (.bool c)]).eval σ=some res->(gOn ρ g=true->∃ A,a.eval x=.pointer A/\c=(if neg then !A.isNone else A.isNone))->gD P E F σ ρ a w g o Q res.upd:=by
       intro c _ h7 hc;refine cB hR hd h7 hs fun hg d hp=>?_
       simp only[Pbn,Pbx,aI.val,aY.run,Ob0,Qbf,and_true]at hp;subst hp;obtain⟨A,hA,rfl⟩:=hc hg;refine⟨_,.bool _,?_⟩;unfold execOp;simp only[ho];refine fC ?_;rw[Sem.run_bind,(bd A hA).1];exact (bd A hA).2
      split at h6
      ·rename_i deps sz z
       simp only[aA,Oby]at h6;obtain⟨ds,h7,h8⟩:=h6;refine Eaf hR hd ho ju h8 hs fun hg d hp=>?_
       have hl:=fI hR hg h1;simp only[bS,aB]at hl;simp only[Pbn,Pbx]at hp
       rcases hl.2 (iG h7).1 with ⟨e1,z',e2⟩|⟨b,row,e1,e2,-⟩
       ·rw[e2]at hp
        simp only[aY.run,List.isEmpty_nil,Ob0,Qbf,and_true]at hp;exact⟨true,hp.symm,bd none e1⟩
       ·rw[e2]at hp
        simp only[aY.run,List.isEmpty_cons,Ob0,Qbf,and_true]at hp;exact⟨false,hp.symm,bd (some b) e1⟩
      ·refine hconst _ 0 h6 fun hg=>?_
       have hl:=fI hR hg h1;simp only[bS,aB]at hl;exact⟨none,hl,by cases neg<;>rfl⟩
      ·refine hconst _ 0 h6 fun hg=>?_
       have hl:=fI hR hg h1;simp only[bS,aB]at hl;exact⟨_,hl.1,by cases neg<;>rfl⟩
      ·refine hconst _ 0 h6 fun hg=>?_
       have hl:=fI hR hg h1;simp only[bS,aB]at hl;obtain⟨_,_,_,_,_,_,_,_,_,e⟩:=hl;exact⟨_,e,by cases neg<;>rfl⟩
      ·cases h6
     ·cases h5
    ·cases h4
 ·cases h3
end
section
variable {P:Program} {E:Env} {F:bC} {σ:Nat->Option aN} {ρ:List D} {a:Act} {w w':World} {G:Gh} {g:Option (aI×Bool)} {o:Oper} {cf:Nat->List D->Option (List D)} {Q:Exit->Act->World->Prop} {next:Act->World->Prop}
theorem jI {t:TypeId}{i:TI}{info:TypeInfo}{u:TypeDesc}(f:bV P t i info u)(b:Addr)(cs:List Value)(hl:cs.length=i.size)
  (h:∀ j v,cs[j]?=some v->w.cell? (b.add j)=some v) {v:Value} (hv:if i.agg=true then v=.agg cs.toArray else cs=[v]):(loadVar t b).run P w=.ok v w:=by
 unfold loadVar;rw[Sem.run_bind,f.isAgg];simp only[Result.andThen_ok];split at hv
 ·rename_i kO
  rw[if_pos kO,Sem.run_bind,f.sizeOf];simp only[Result.andThen_ok];rw[Sem.run_bind,<- hl,run_loadCells_list w b cs h];simp only[Result.andThen_ok,Sem.run_pure,hv]
 ·rename_i kO
  rw[if_neg kO,run_load];have:=h 0 v (by rw[hv];rfl);simp only[Addr.add,if_true]at this;rw[this]
theorem kE (b:Addr):∀ (ls:List aM) (k:Nat),(∀ j l,ls[j]?=some l->∃ v,w.cell? (b.add (k+j))=some v/\aB σ ρ G w l v) ->
  ∃ vs,aG σ ρ G w ls vs/\∀ j v,vs[j]?=some v->w.cell? (b.add (k+j))=some v
 |[],k,_=>⟨[],by simp[aG],by simp⟩
 | l :: ls, k, h => by
  obtain⟨u,h1,h2⟩:=h 0 l rfl
  obtain⟨us,h3,h4⟩:=kE b ls (k+1) fun j l' hj=>by
   have:=h (j+1) l' (by simpa using hj);rwa[show k+1+j=k+(j+1) by omega]
  refine⟨u::us,by simp only[aG];exact⟨u,us,rfl,h2,h3⟩,fun j v hj=>?_⟩
  cases j with
  | zero =>
   simp only[Ob7,Ob0]at hj;exact hj▸h1
  | succ j =>
   have:=h4 j v (by simpa using hj);rwa[show k+(j+1)=k+1+j by omega]
theorem wG.snoc {own:Nat->Ow}{r k:Nat}{c:Addr}{n m:Nat}{u':Value}:∀ (p q:List Nat) (v:Value),wG own w r q v p (.slice (some c) n m)->own c.block=.slc r (q++p)->w.cell? (c.add k)=some u'->wG own w r q v (p++[k]) u'
 | [], q, v, h, ho, hc => by
  simp only[wG]at h;simp only[List.nil_append,wG];exact⟨c,n,m,u',h.symm,by simpa using ho,hc,rfl⟩
 | j :: p, q, v, h, ho, hc => by
  obtain⟨a',n',c',u1,rfl,h1,h2,h3⟩:=h;simp only[Qb2,wG];exact⟨a',n',c',u1,rfl,h1,h2,wG.snoc p (q++[j]) u1 h3 (by simpa using ho) hc⟩
theorem Rd.sc_inv {ok:Nat->Prop}{v:Value}{d:D}(h:Rd ok w v d)(hd:d.isSc=true):Sc v d:=by
 cases h with
 |sc h=>exact h
 |hole=>simp[D.isSc]at hd
 |rows=>simp[D.isSc]at hd
theorem Rp.zero {own:Nat->Ow}{r:Nat}{p:List Nat}{v:Value}{d:D}(h:Rp own w r p 0 v d):Rd (fun b=>own b=.frz) w v d:=by
 generalize hm:0=m at h
 cases h with
 |sc h=>exact .sc h
 |hole _ h1=>exact .hole _ h1
 |fz h=>exact h
 |sl=>omega
theorem Va8 {s:SlR}{c:Addr}{n cap:Nat}(h:Sa0 σ ρ G w s (.slice (some c) n cap)){sz:Nat}{rs:List (List D)}(hx:s.x.val ρ=.rows sz rs){i:aI}{k:IntKind}{iv:Int}(hi:i.val ρ=.int k iv)
  {row:List D} (hr:rs[iv.toNat]?=some row) {off:Nat} {d:D} (hd:row[off]?=some d) (ck:CK) (hk:Bbt ck=true->d.isSc=true) {y:aI} (hy:y.val ρ=d) :
  ∃ v,w.cell? (c.add (iv.toNat*sz+off))=some v/\aB σ ρ G w (iT s i sz off ck y) v:=by
 have gA:=h.rd;rw[hx]at gA;obtain⟨A,c',n',gS,vs,e1,e2,e3,e4,e5,e6,e7⟩:=gA.inv;obtain⟨rfl,rfl,rfl⟩:some c=A/\n=n'/\cap=gS:=by injection e1 with a b c;exact⟨a,b,c⟩
 have aq:iv.toNat<rs.length:=by
  rcases Pbo iv.toNat rs.length with h|h
  ·exact h
  ·rw[Qbr h]at hr;cases hr
 have hc:c=c':=by
  rcases e4 with e4|e4
  ·omega
  ·exact Pbu e4
 subst hc;obtain⟨-,bc⟩:=e6 _ _ hr _ _ hd;have b5:=e7 _ _ hr _ _ hd;refine⟨_,bc,?_⟩
 cases ck with
 | sc z =>
  simp only[iT,aB];rw[hy];exact b5.sc_inv (hk rfl)
 |pn=>simpa only[iT,aB] using b5.one
 |ot=>simpa only[iT,aB] using b5.one
 | sl z =>
  have hex:∀ z∈s.deps,iK σ z.1 z.2:=fun z hz=>by
   obtain⟨m,hl⟩:=h.live z hz;exact hl.valid.known
  have a2x:aB σ ρ G w (.sn s.deps .no false y) (vs iv.toNat off):=by
   simp only[aB];exact⟨⟨b5.one,hex⟩,fun _=>⟨by rw[hy];exact b5,by simp,trivial⟩⟩
  simp only[iT];have a7:=h.own;unfold sD at a7;split
  ·rename_i r k' m p ho
   rw[ho]at a7;obtain⟨h1,h2,h3,h4,h5⟩:=a7;rw[hx]at h4
   cases hm:m-p.length with
   | zero =>
    have:Nat.ble (p.length+2) m=false:=by
     cases hb:Nat.ble (p.length+2) m with
     |false=>rfl
     |true=>simp only[Qba]at hb;omega
    rw[this,cond_false];rw[hm]at h4;obtain⟨A',c'',n'',vr,ui,e1',e2',e3',qq,e5',e6',e7'⟩:=h4.zero.inv;obtain⟨rfl,rfl,rfl⟩:some c=A'/\n=n''/\cap=vr:=by injection e1' with a b c;exact⟨a,b,c⟩
    have hc:c=c'':=by
     rcases qq with qq|qq
     ·omega
     ·exact Pbu qq
    subst hc;obtain⟨-,gy⟩:=e6' _ _ hr _ _ hd;rw[bc]at gy;simp only[aB];refine⟨⟨b5.one,by simp⟩,fun _=>⟨?_,by simp,trivial⟩⟩;rw[hy,Pbu gy];exact (e7' _ _ hr _ _ hd).mono fun b hb=>⟨.inl hb,rfl⟩
   | succ m' =>
    rw[hm]at h4
    cases h4 with
    |sc h=>cases h
    | sl A' c'' n'' vr _ _ ui e2' e3' qq e5' e6' e7' e8' =>
     have hc:c=c'':=by
      rcases qq with qq|⟨qq,-⟩
      ·exact Pbu qq
      ·cases qq
     subst hc;obtain⟨-,oz,-⟩:=e6' rfl;have gy:=e7' _ _ hr _ _ hd;have sy:=e8' _ _ hr _ _ hd;rw[bc]at gy;rw[<- Pbu gy]at sy
     cases hb:Nat.ble (p.length+2) m with
     | false =>
      rw[cond_false]
      have:m'=0:=by
       have:¬ p.length+2<=m:=by rw[<- Qba,hb];simp
       omega
      subst this;simp only[aB];refine⟨⟨b5.one,by simp⟩,fun _=>⟨?_,by simp,trivial⟩⟩;rw[hy];exact sy.zero.mono fun b hb=>⟨.inl hb,rfl⟩
     | true =>
      rw[cond_true];simp only[Qba]at hb
      have ym:aZ ρ (p++[(i,sz,off)])=aZ ρ p++[iv.toNat*sz+off]:=by
       simp[aZ,jT,hi]
      simp only[aB];refine⟨⟨b5.one,fun z hz=>?_⟩,fun _=>⟨?_,by simp,?_⟩⟩
      ·simp only[Ob3]at hz
       subst hz;exact h2.valid.known
      ·rw[hy]
       rw[h1]at b5;exact b5
      ·simp only[Aaq]
       intro r2 k2 m2 e2 k9;obtain⟨rfl,rfl⟩:r=r2/\k'=k2:=by simpa using e2
       obtain⟨x1,ex1⟩:=h2;obtain⟨x2,uq⟩:=k9;rw[ex1]at uq;obtain rfl:m=m2:=by injection uq with uq;injection uq
       refine⟨by simp;omega,?_,?_⟩
       ·rw[ym,hy,show m-(p++[(i,sz,off)]).length=m' by simp;omega]
        exact sy
       ·rw[ym]
        exact h5.snoc _ _ _ (by simpa using oz) bc
  ·exact a2x
theorem Ea3:∀ {ks:List Bool} {ds:List D},Bad ks ds=true->∀ (j:Nat) (d:D),ks[j]?=some true->ds[j]?=some d->d.isSc=true
 |[],ds,_,j,d,hk,_=>by simp at hk
 |k::ks,[],h,j,d,hk,hd=>by simp at hd
 | k :: ks, e :: ds, h, j, d, hk, hd => by
  simp only[Bad,Obz,Qbb,Pbs]at h
  cases j with
  | zero =>
   simp only[Ob7,Ob0]at hk hd;subst hk hd;simpa using h.1
  |succ j=>exact Ea3 h.2 j d (by simpa using hk) (by simpa using hd)
theorem Aa3 {t:TypeId}{b:Addr}{v:Value}(h:(loadVar t b).run P w=.ok v w):(Instr.loadAt t (.pointer (some b))).run P w=.ok v w:=by
 simp only[Instr.loadAt,Instr.sureAddr,Sem.run_bind,Sem.run_pure,Result.andThen_ok,h]
theorem uR (s:SlR)(i:aI)(sz:Nat):∀ (cs:List CK) (off y j:Nat) (l:aM),(dV s i sz off cs y)[j]?=some l->∃ c,cs[j]?=some c/\l=iT s i sz (off+j) c (.v (y+j))
 |[],off,y,j,l,h=>by simp[dV]at h
 | c :: cs, off, y, j, l, h => by
  simp only[dV]at h
  cases j with
  | zero =>
   simp only[Ob7,Ob0]at h;exact⟨c,rfl,h.symm⟩
  | succ j =>
   obtain⟨c',h1,h2⟩:=uR s i sz cs (off+1) (y+1) j l (by simpa using h);exact⟨c',by simpa using h1,by rw[h2];congr 1<;>first|omega|(congr 1;omega)⟩
theorem uQ (s:SlR)(i:aI)(sz:Nat):∀ (cs:List CK) (off y:Nat),(dV s i sz off cs y).length=cs.length
 |[],_,_=>rfl
 |c::cs,off,y=>by simp[dV,uQ s i sz cs (off+1) (y+1)]
theorem Aa0 {agg:Bool}{ls:List aM}{sv:SV}(h:Paj agg ls=some sv){vs:List Value}(hl:vs.length=ls.length):∃ v,if agg=true then v=.agg vs.toArray else vs=[v]:=by
 cases agg with
 |true=>exact⟨_,rfl⟩
 | false =>
  simp only[Paj,cond_false]at h;split at h
  ·match vs,hl with
   |[v],_=>exact⟨v,rfl⟩
  ·cases h
theorem Tay {sz off:Nat}{ks:List Bool}{x i:D}{ds:List D}(h:(aY.row sz off ks).run [x,i]=some ds) :
  ∃ rs k iv row,x=.rows sz rs/\i=.int k iv/\0<=iv/\rs[iv.toNat]?=some row/\off+ks.length<=row.length/\Bad ks (row.drop off)=true/\ds=(row.drop off).take ks.length:=by
 cases x<;>cases i<;>simp only[aY.run]at h<;>first|cases h|skip
 rename_i ob rs k iv;split at h
 ·rename_i h1
  obtain⟨rfl,h1⟩:=h1;split at h
  ·rename_i row hr
   split at h
   ·rename_i h2
    simp only[Ob0]at h;exact⟨rs,k,iv,row,rfl,rfl,h1,hr,h2.1,h2.2,h.symm⟩
   ·cases h
  ·cases h
 ·cases h
theorem Rai (hR:R E.ntmps F σ ρ a w G)(hd:eO E.ntmps o)(hti:sM P E.ti){nv:Nat}{t:TypeId}{x:Operand}(ho:o.op=.load t x){ti:TI}
  (hi:E.ti t=some ti) {p:aM} (hp:gOn ρ g=true->aB σ ρ G w p (a.eval x)) {res:bI}
  (h:(Pad nv o g ti p).eval σ=some res) (hs:aJ cf ρ g nv res.lets):gD P E F σ ρ a w g o Q res.upd:=by
 obtain⟨info,u,f⟩:=aV (hti.ok _ _ hi)
 have hex:∀ {v:Value},(Instr.loadAt t (a.eval x)).run P w=.ok v w->(execOp a.eval o).run P w=.ok (.value v) w:=by
  intro v hv;unfold execOp;simp only[ho];exact fC hv
 unfold Pad at h;split at h
 ·rename_i b off
  simp only[aA,aP,Ob6]at h;split at h
  ·rename_i ro bs hk
   simp only[aA,Oby,aH]at h;obtain⟨_,fp,h⟩:=h;split at fp
   ·rename_i hle
    simp only[Qba]at hle;split at h
    ·rename_i sv gg
     refine vI hR hd h hs fun hg=>?_
     have hl:=hp hg;simp only[aB]at hl;obtain⟨h1,h2,h3⟩:=hR.box hk
     obtain⟨vs,h4,h5⟩:=kE (σ:=σ) (ρ:=ρ) (G:=G) (w:=w) ((G.bx b).add off) ((bs.drop off).take ti.size) 0 fun j l hj=>by
      rw[Qbd]at hj;split at hj
      ·rw[Pb7]at hj
       obtain⟨v,h6,-,h7⟩:=h3 _ _ hj;refine⟨v,?_,h7⟩;rw[Pbw,add_add];exact h6
      ·cases hj
     have hlen:vs.length=ti.size:=by
      rw[h4.len];simp;omega
     obtain⟨v,hv⟩:=Aa0 gg h4.len;refine⟨v,pR gg h4 hv,hex ?_⟩;rw[hl.1];exact Aa3 (jI f _ vs hlen (fun j v hj=>by simpa using h5 j v hj) hv)
    ·cases h
   ·cases fp
  ·cases h
 ·rename_i l sz i off
  simp only[aA,Oby]at h;obtain⟨s,gj,h⟩:=h
  have main:∀ (ks:List Bool) (ds:List D),(∀ (j:Nat) (c:CK),ti.cells[j]?=some c->Bbt c=true->ks[j]?=some true)->ks.length=ti.cells.length->gOn ρ g=true ->
    (aY.row sz off ks).run [s.x.val ρ,i.val ρ]=some ds->(∀ j d,ds[j]?=some d->(aI.v (nv+j)).val ρ=d) ->
    ∃ vs,aG σ ρ G w (dV s i sz off ti.cells nv) vs/\vs.length=ti.size/\∃ b,a.eval x=.pointer (some b)/\∀ j v,vs[j]?=some v->w.cell? (b.add j)=some v:=by
   intro ks ds hks xk hg bd kb;have hl:=hp hg;simp only[aB]at hl;obtain⟨b,n,c,k,iv,h1,h2,h3,h4,h5⟩:=hl;have a4f:=dI hR gj h1;obtain⟨rs,k',iv',row,e1,e2,e3,e4,e5,e6,rfl⟩:=Tay bd;rw[h2]at e2;obtain⟨rfl,rfl⟩:k=k'/\iv=iv':=by injection e2 with a b;exact⟨a,b⟩
   obtain⟨vs,h6,h7⟩:=kE (σ:=σ) (ρ:=ρ) (G:=G) (w:=w) (b.add (iv.toNat*sz+off)) (dV s i sz off ti.cells nv) 0 fun j l' hj=>by
    obtain⟨c',ic,rfl⟩:=uR _ _ _ _ _ _ _ _ hj;have lz:j<ti.cells.length:=(Ob2.1 ic).1;have gR:row[off+j]?=some row[off+j]:=Ob5 (by omega)
    obtain⟨v,sT,hv2⟩:=Va8 a4f e1 h2 e4 (off:=off+j) (d:=row[off+j]) gR c' (fun jw=>Ea3 e6 j _ (hks j c' ic jw) (by rw[Pb7];exact gR)) (y:=.v (nv+j))
     (kb j _ (by rw[Qbd,if_pos (by omega),Pb7];exact gR))
    refine⟨v,?_,hv2⟩;rw[add_add,Pbw,Pbm];exact sT
   exact⟨vs,h6,by rw[h6.len,uQ,f.len],_,h5,fun j v hj=>by simpa using h7 j v hj⟩
  split at h
  ·rename_i x' gg
   have sh:x'=.v nv/\ti.agg=false/\∃ z,ti.cells=[.sc z]:=by
    unfold Paj at gg
    cases kO:ti.agg with
    |true=>rw[kO]at gg;simp at gg
    | false =>
     rw[kO]at gg;simp only[cond_false]at gg
     cases hc:ti.cells with
     |nil=>rw[hc]at gg;simp[dV]at gg
     | cons c cs =>
      cases cs with
      | nil =>
       rw[hc]at gg;simp only[dV,Ob0,SV.one.injEq]at gg
       cases c with
       |sc z=>simp only[iT,aM.sc.injEq]at gg;exact⟨gg.symm,rfl,z,rfl⟩
       | sl z =>
        simp only[iT]at gg;split at gg
        ·cases hb:Nat.ble _ _<;>(rw[hb]at gg;cases gg)
        ·cases gg
       |pn=>simp[iT]at gg
       |ot=>simp[iT]at gg
      |cons c' nj=>rw[hc]at gg;simp[dV]at gg
   obtain⟨rfl,kO,z,hcs⟩:=sh
   have ba:aJ cf ρ g nv [.prim (.row sz off [true]) [s.x,i] 1]:=by
    simp only[qG,aF,Ob0]at h;subst h;exact hs
   refine cB hR hd h hs fun hg d yz=>?_
   obtain⟨d',h1,h2⟩:=fF ba hg;simp only[Pbn,Pbx]at yz h1
   obtain⟨vs,h3,h4,b,h5,h6⟩:=main [true] [d'] (fun j c hc _=>by
    rw[hcs]at hc
    cases j with
    |zero=>rfl
    | succ j => simp at hc) (by rw [hcs]; rfl) hg h1 (fun j d hj => by
     cases j with
     |zero=>simp only[Ob7,Ob0]at hj;rw[<- hj];exact h2
     |succ j=>simp at hj)
   obtain⟨v,hv⟩:=Aa0 gg h3.len;have h7:=pR gg h3 hv;simp only[bS,aB]at h7;refine⟨v,?_,hex ?_⟩
   ·rw[h2]at h7
    rw[h1]at yz;simp only[Ob0,Qbf,and_true]at yz;exact yz▸h7
   ·rw[h5]
    exact Aa3 (jI f b vs h4 h6 hv)
  ·rename_i sv _ gg
   refine dB hR hd h hs fun hg ba=>?_
   obtain⟨ds,h1,h2,h3⟩:=step1 ba hg;simp only[Pbn,Pbx]at h1;obtain⟨vs,h4,h5,b,h6,h7⟩:=main _ ds (fun j c hc jw=>by rw[Pbr,hc];simp[jw]) (by simp) hg h1 h3;obtain⟨v,hv⟩:=Aa0 gg h4.len;refine⟨v,pR gg h4 hv,hex ?_⟩;rw[h6];exact Aa3 (jI f b vs h5 h7 hv)
  ·cases h
 ·cases h
end
section
variable {P:Program} {E:Env} {F:bC} {σ:Nat->Option aN} {ρ:List D} {a:Act} {w w':World} {G:Gh} {g:Option (aI×Bool)} {o:Oper} {cf:Nat->List D->Option (List D)} {Q:Exit->Act->World->Prop} {next:Act->World->Prop}
theorem Faw:∀ {rs:List (List D)} {l:List UInt8},bytesOf rs=some l->∃ ns:List Int,rs=ns.map (fun n=>[D.int .u8 n])/\l=ns.map fun n=>UInt8.ofNat n.toNat
 | [], l, h => by
  simp only[bytesOf,Ob0]at h;exact⟨[],rfl,h.symm⟩
 | r :: rs, l, h => by
  unfold bytesOf at h;split at h
  ·rename_i hh;cases hh
  ·rename_i n r' hh
   obtain⟨rfl,rfl⟩:=Sbd hh;simp only[Pbc]at h;obtain⟨l',h1,rfl⟩:=h;obtain⟨ns,rfl,rfl⟩:=Faw h1;exact⟨n::ns,rfl,rfl⟩
  ·cases h
theorem Rak (hR:R E.ntmps F σ ρ a w G)(hd:eO E.ntmps o)(hti:sM P E.ti){nv:Nat}{src dst:TypeId}{x:Operand}(ho:o.op=.convert src dst x){res:bI}{s d ei:TI}{e:Nat}
  (nn:E.ti src=some s) (he:s.elem=some e) (xm:E.ti e=some ei) (hk:Jbi ei.ik=true) (gp:E.ti dst=some d) (y5:d.isStr=true)
  {l:aM} {r:SlR} (h1:(rdL E g src x).eval σ=some l) (h2:(vJ l).eval σ=some r)
  (h:(qG o g nv .bstr [r.x]).eval σ=some res) (hs:aJ cf ρ g nv res.lets):gD P E F σ ρ a w g o Q res.upd:=by
 refine cB hR hd h hs fun hg z hp=>?_
 obtain⟨i1,u1,f1⟩:=aV (hti.ok _ _ nn);obtain⟨i2,u2,f2⟩:=aV (hti.ok _ _ gp);obtain⟨i3,u3,f3⟩:=aV (hti.ok _ _ xm);obtain rfl:=nT f1 he;obtain rfl:=Aa1 f2 y5
 have e3:u3=.int .u8:=by
  unfold Jbi at hk;split at hk
  ·rename_i k jh
   simp only[Ibs,decide_eq_true_eq]at hk;have:=f3.ik.symm.trans jh;unfold Ibn at this;split at this
   ·rw[Pbu this,hk]
   ·cases this
  ·cases hk
 subst e3;have hl:=(dI hR h2 (eU hR hg h1)).rd;simp only[Pbn,Pbx]at hp;generalize r.x.val ρ=xv at hp hl;cases xv<;>simp only[aY.run]at hp<;>first|cases hp|skip
 rename_i sz rs;simp only[Pbc,Qbf,and_true]at hp;obtain⟨bs,hb,rfl⟩:=hp;obtain⟨ns,rfl,rfl⟩:=Faw hb;obtain⟨A,b,n,c,vs,e1,e2,e3,e4,e5,e6,e7⟩:=hl.inv;refine⟨_,.str _,?_⟩;unfold execOp;simp only[ho];refine fC ?_;rw[e1,run_convert_bytes_string w src dst e A n c f1.und f3.und f2.und]
 cases A with
 | none =>
  have:n=0:=by
   rcases e4 with e4|e4
   ·exact e4
   ·cases e4
  subst this;simp only[Pbt]at e2;obtain rfl:=Qbe e2;simp[Conv.bytesToString];rfl
 | some b' =>
  have sf:(loadCells b' n).run P w=.ok (ns.map (Value.int .u8)).toArray w:=by
   simp only[Pbt]at e2
   have:=run_loadCells_list (P:=P) w b' (ns.map (Value.int .u8)) (fun j v hj=>by
    simp only[Pbr,Pbc]at hj;obtain⟨m,hm,rfl⟩:=hj;have hr:(ns.map fun n=>[D.int .u8 n])[j]?=some [D.int .u8 m]:=by rw[Pbr,hm];rfl
    have h9:=e6 j _ hr 0 _ rfl;have cd:=(e7 j _ hr 0 _ rfl).sc_inv rfl
    have dm:sz=1:=by
     have:=e5 _ (Pbh hr);simpa using this.symm
    have gn:j<ns.length:=(Ob2.1 hm).1
    have cI:b'=b:=by
     rcases e4 with e4|e4
     ·omega
     ·exact Pbu e4
    subst cI dm;rw[cd.int_inv]at h9;simpa using h9.2)
   simpa[e2] using this
  rw[run_bytesToString w b' n c ns sf,foldl_push_bytes];simp[ByteArray.empty,ByteArray.emptyWithCapacity];rfl
theorem Kau (hR:R E.ntmps F σ ρ a w G)(hd:eO E.ntmps o)(hti:sM P E.ti){nv:Nat}{src dst:TypeId}{x:Operand}(ho:o.op=.convert src dst x){res:bI}{s d:TI}
  (nn:E.ti src=some s) (hsS:s.isStr=true) (gp:E.ti dst=some d) (y5:d.isStr=true) {x':aI} (h1:(rdA E g src x).eval σ=some x')
  (h:(qG o g nv .sid [x']).eval σ=some res) (hs:aJ cf ρ g nv res.lets):gD P E F σ ρ a w g o Q res.upd:=by
 refine cB hR hd h hs fun hg z hp=>?_
 obtain⟨i1,u1,f1⟩:=aV (hti.ok _ _ nn);obtain⟨i2,u2,f2⟩:=aV (hti.ok _ _ gp);obtain rfl:=Aa1 f1 hsS;obtain rfl:=Aa1 f2 y5;have hl:=iN hR hg h1;simp only[Pbn,Pbx]at hp;generalize x'.val ρ=xv at hp hl;cases xv<;>simp only[aY.run]at hp<;>first|cases hp|skip
 refine⟨_,.str _,?_⟩;unfold execOp;simp only[ho,hl.str_inv];refine fC ?_;simp only[convert,Sem.run_bind,run_underlying f1.und,run_underlying f2.und,Result.andThen_ok];rfl
theorem Ga5 {is:Bool}{len cap:Nat}{lo hi:Option Value}{kl kh:IntKind}{l h:Int}(oc:(lo=none/\l=0)\/lo=some (.int kl l))(uc:(hi=none/\h=len)\/(hi=some (.int kh h)/\h<=cap))(h0:0<=l)(h1:l<=h) :
  (Instr.sliceBounds is len cap lo hi none).run P w=.ok (l.toNat,h.toNat,cap) w:=by
 rcases uc with ⟨rfl,rfl⟩|⟨rfl,hc⟩<;>rcases oc with ⟨rfl,rfl⟩|rfl
 ·simp[Instr.sliceBounds]
 ·have e2:0<=l/\l<=(len:Int):=⟨h0,by omega⟩
  simp[Instr.sliceBounds,Instr.sliceBound,asIntOf,e2]
 ·have e1:0<=h/\h<=(cap:Int):=⟨by omega,hc⟩
  simp[Instr.sliceBounds,Instr.sliceBound,asIntOf,e1]
 ·have e1:0<=h/\h<=(cap:Int):=⟨by omega,hc⟩
  have e2:0<=l/\l<=(h.toNat:Int):=⟨h0,by omega⟩;have e3:0<=l/\l<=max h 0:=⟨h0,by omega⟩;simp[Instr.sliceBounds,Instr.sliceBound,asIntOf,e1,e2,e3]
theorem Qaz {ei:TI}{lo fl:Bool}{s:SlR}{p:Pth}(h:Gas ei lo s=(p,fl)):(p=.no) \/
  (p=.view/\∃ r k m q,s.own=some (r,k,m,q)/\(q=.path []\/q=.view)/\(m=1\/lo=false\/fl=true)):=by
 unfold Gas at h
 have one:∀ m:Nat,(bif Nat.beq m 1||!lo then (Pth.view,false) else bif Ja8 ei.cells then (Pth.view,true) else (Pth.no,false))=(p,fl)->p=.no\/(p=.view/\(m=1\/lo=false\/fl=true)):=by
  intro m h
  cases hb:(Nat.beq m 1||!lo) with
  | true =>
   rw[hb]at h;simp only[cond_true,Pbl]at h;simp only[Qbb,Pbq,Pbs]at hb;exact .inr ⟨h.1.symm,hb.imp id .inl⟩
  | false =>
   rw[hb]at h
   cases hn:Ja8 ei.cells with
   | true =>
    rw[hn]at h;simp only[cond_false,cond_true,Pbl]at h;exact .inr ⟨h.1.symm,.inr (.inr h.2.symm)⟩
   | false =>
    rw[hn]at h;simp only[cond_false,Pbl]at h;exact .inl h.1.symm
 split at h
 ·rename_i r k m ho
  exact (one _ h).imp id fun ⟨h1,h2⟩=>⟨h1,_,_,_,_,ho,.inl rfl,h2⟩
 ·rename_i r k m ho
  exact (one _ h).imp id fun ⟨h1,h2⟩=>⟨h1,_,_,_,_,ho,.inr rfl,h2⟩
 ·simp only[Pbl]at h
  exact .inl h.1.symm
theorem Nar {sz:Nat}{fl:Bool}{x i j:D}{ds:List D}(h:(aY.sub sz fl).run [x,i,j]=some ds) :
  ∃ rs ki kj lo hi,x=.rows sz rs/\i=.int ki lo/\j=.int kj hi/\(fl=true->∀ r∈rs,∀ d∈r,d.isSc=true)/\0<=lo/\lo<=hi/\hi<=rs.length/\ds=[.rows sz ((rs.take hi.toNat).drop lo.toNat)]:=by
 cases x<;>cases i<;>cases j<;>simp only[aY.run]at h<;>first|cases h|skip
 split at h
 ·rename_i h1
  obtain⟨rfl,h1,h2,h3,h4⟩:=h1;simp only[Ob0]at h;refine⟨_,_,_,_,_,rfl,rfl,rfl,fun hf=>?_,h2,h3,h4,h.symm⟩;rw[hf]at h1;simp only[Bool.not_true,Bool.false_or,Pbv]at h1;exact fun r hr d hd=>h1 r hr d hd
 ·cases h
theorem Ial {rs:List (List D)}{lo hi i:Nat}{r:List D}(h:((rs.take hi).drop lo)[i]?=some r):rs[lo+i]?=some r/\lo+i<hi:=by
 rw[Pb7,Qbd]at h;split at h
 ·rename_i hl;exact⟨h,hl⟩
 ·cases h
theorem Rd.part {ok:Nat->Prop}{A:Option Addr}{n c sz:Nat}{rs:List (List D)}(h:Rd ok w (.slice A n c) (.rows sz rs)){lo hi:Nat}(h1:lo<=hi)(h2:hi<=n) :
  Rd ok w (.slice (if c=lo then A else A.map (·.add (lo*sz))) (hi-lo) (c-lo)) (.rows sz ((rs.take hi).drop lo)):=by
 obtain⟨A',b,n',c',vs,e1,e2,e3,e4,e5,e6,e7⟩:=h.inv;obtain⟨rfl,rfl,rfl⟩:A=A'/\n=n'/\c=c':=by injection e1 with a b c;exact⟨a,b,c⟩
 refine .rows _ (b.add (lo*sz)) _ _ sz _ (fun i j=>vs (lo+i) j) (by simp;omega) (by omega) ?_ (fun r hr=>?_) (fun i r fb j d hj=>?_) (fun i r fb j d hj=>?_)
 ·by_cases hz:hi-lo=0
  ·exact .inl hz
  ·refine .inr ?_
   have hA:A=some b:=e4.resolve_left (by omega);rw[if_neg (by omega),hA];rfl
 ·exact e5 r (List.mem_of_mem_take (Rbe hr))
 ·obtain⟨h3,h4⟩:=Ial fb
  obtain⟨h5,h6⟩:=e6 _ _ h3 _ _ hj;refine⟨by rw[add_block];exact h5,?_⟩;rw[add_add,show lo*sz+(i*sz+j)=(lo+i)*sz+j by rw[Nat.add_mul,Pbm]];exact h6
 ·obtain⟨h3,h4⟩:=Ial fb
  exact e7 _ _ h3 _ _ hj
theorem Rp.sc_inv {own:Nat->Ow}{r m:Nat}{p:List Nat}{v:Value}{d:D}(h:Rp own w r p m v d)(hd:d.isSc=true):Sc v d:=by
 cases h with
 |sc h=>exact h
 |hole=>simp[D.isSc]at hd
 |fz h=>exact h.sc_inv hd
 |sl=>simp[D.isSc]at hd
theorem Rp.part {own:Nat->Ow}{r m:Nat}{p:List Nat}{A:Option Addr}{n c sz:Nat}{rs:List (List D)}(h:Rp own w r p m (.slice A n c) (.rows sz rs)){lo hi:Nat}(h1:lo<=hi)(h2:hi<=n)
  (hc:m=1\/lo=0\/∀ r∈rs,∀ d∈r,d.isSc=true) :
  Rp own w r p m (.slice (if c=lo then A else A.map (·.add (lo*sz))) (hi-lo) (c-lo)) (.rows sz ((rs.take hi).drop lo)):=by
 generalize hv:Value.slice A n c=v at h;generalize hx:D.rows sz rs=x at h
 cases h with
 |sc h=>subst hx;cases h
 |hole=>cases hx
 |fz h=>subst hv hx;exact .fz (h.part h1 h2)
 | sl A' b n' c' ob rs' vs hn ic hA dm a7 bc b5 =>
  obtain⟨rfl,rfl,rfl⟩:A=A'/\n=n'/\c=c':=by injection hv with a b c;exact⟨a,b,c⟩
  obtain⟨rfl,rfl⟩:sz=ob/\rs=rs':=by injection hx with a b;exact⟨a,b⟩
  rename_i m';refine .sl _ (if c=lo then b else b.add (lo*sz)) _ _ sz _ (fun i j=>vs (lo+i) j) (by simp;omega) (by omega) ?_ (fun r hr=>?_) (fun e=>?_) (fun i r' fb j d hj=>?_) (fun i r' fb j d hj=>?_)
  ·rcases hA with hA|⟨hA,h0⟩
   ·refine .inl ?_
    rw[hA];by_cases h:c=lo
    ·rw[if_pos h,if_pos h]
    ·rw[if_neg h,if_neg h];rfl
   ·refine .inr ⟨?_,by omega⟩
    rw[hA];split<;>rfl
  ·exact dm r (List.mem_of_mem_take (Rbe hr))
  ·have vw:A=some b:=by
    rcases hA with hA|⟨hA,h0⟩
    ·exact hA
    ·rw[hA]at e
     split at e<;>cases e
   obtain⟨h3,h4,h5⟩:=a7 vw;by_cases h:c=lo
   ·rw[if_pos h]
    exact⟨h3,h4,fun k hk=>by rw[h,Nat.sub_self,Nat.zero_mul]at hk;omega⟩
   ·rw[if_neg h]
    refine⟨?_,by rw[add_block];exact h4,fun k hk=>?_⟩
    ·unfold Addr.add;split
     ·exact h3
     ·rfl
    ·rw[add_add]
     refine h5 _ ?_;rw[Nat.sub_mul]at hk;omega
  ·obtain⟨h3,h4⟩:=Ial fb
   rw[if_neg (by omega),add_add,show lo*sz+(i*sz+j)=(lo+i)*sz+j by rw[Nat.add_mul,Pbm]];exact bc _ _ h3 _ _ hj
  ·obtain⟨h3,h4⟩:=Ial fb
   have:=b5 _ _ h3 _ _ hj
   rcases hc with hc|hc|hc
   ·obtain rfl:m'=0:=by omega
    exact .fz this.zero
   ·subst hc
    simpa using this
   ·exact .sc (this.sc_inv (hc r' (Pbh h3) d (Pbh hj)))
theorem sW {t e:TypeId}{x:Operand}{lo hi:Option Operand}(ho:o.op=.slice t x lo hi none)(hu:P.underlying t=some (.slice e)){size:Nat}(dm:(sizeOf e).run P w=.ok size w)
  {A:Option Addr} {n c:Nat} (hx:a.eval x=.slice A n c) {kl kh:IntKind} {l h:Int} (oc:(lo=none/\l=0)\/lo.map a.eval=some (.int kl l)) (uc:(hi=none/\h=n)\/(hi.map a.eval=some (.int kh h)/\h<=c)) (h0:0<=l) (h1:l<=h) :
  (execOp a.eval o).run P w=.ok (.value (.slice (if c=l.toNat then A else A.map (·.add (l.toNat*size))) (h.toNat-l.toNat) (c-l.toNat))) w:=by
 unfold execOp;simp only[ho];refine fC ?_;have hb:=Ga5 (P:=P) (w:=w) (is:=true) (len:=n) (cap:=c) (lo:=lo.map a.eval) (hi:=hi.map a.eval) (kl:=kl) (kh:=kh) (l:=l) (h:=h) (oc.imp (fun ⟨h1,h2⟩=>⟨by rw[h1];rfl,h2⟩) id) (uc.imp (fun ⟨h1,h2⟩=>⟨by rw[h1];rfl,h2⟩) id) h0 h1;simp only[Instr.sliceAt,Instr.slice,Sem.run_bind,run_underlying hu,Result.andThen_ok,hx,Option.map_none,hb,dm,Sem.run_pure]
end
section
variable {P:Program} {E:Env} {F:bC} {σ:Nat->Option aN} {ρ:List D} {a:Act} {w w':World} {G:Gh} {g:Option (aI×Bool)} {o:Oper} {cf:Nat->List D->Option (List D)} {Q:Exit->Act->World->Prop} {next:Act->World->Prop}
theorem tQ {g:Option (aI×Bool)}(h:noG g=true):g=none:=by
 cases g with
 |none=>rfl
 |some _=>cases h
theorem zD {p:aY}{xs:List aI}{nv:Nat}(h:Qaw cf ρ g nv (.prim p xs 1))(hg:gOn ρ g=true) :
  ∃ d,p.run (xs.map (·.val ρ))=some [d]/\(aI.v nv).val ρ=d:=fF (cf:=cf) (nv:=nv) ⟨h,trivial⟩ hg
theorem yP {t:TypeId}{x:Operand}{lo hi:Option Operand}(ho:o.op=.slice t x lo hi none)(hu:P.underlying t=some .string)
  {s:List UInt8} (hx:a.eval x=.string ⟨s.toArray⟩) {kl kh:IntKind} {l h:Int} (oc:(lo=none/\l=0)\/lo.map a.eval=some (.int kl l)) (uc:(hi=none/\h=s.length)\/(hi.map a.eval=some (.int kh h)/\h<=s.length)) (h0:0<=l) (h1:l<=h) :
  (execOp a.eval o).run P w=.ok (.value (.string ⟨((s.take h.toNat).drop l.toNat).toArray⟩)) w:=by
 unfold execOp;simp only[ho];refine fC ?_;have hb:=Ga5 (P:=P) (w:=w) (is:=false) (len:=s.length) (cap:=s.length) (lo:=lo.map a.eval) (hi:=hi.map a.eval) (kl:=kl) (kh:=kh) (l:=l) (h:=h) (oc.imp (fun ⟨h1,h2⟩=>⟨by rw[h1];rfl,h2⟩) id) (uc.imp (fun ⟨h1,h2⟩=>⟨by rw[h1];rfl,h2⟩) id) h0 h1;have hlen:(⟨s.toArray⟩:ByteArray).size=s.length:=rfl;simp only[Instr.sliceAt,Instr.slice,Sem.run_bind,run_underlying hu,Result.andThen_ok,hx,Option.map_none,Option.isSome_none,Ob9,if_false,hlen,hb,Sem.run_pure];congr 2;apply ByteArray.ext;rw[ByteArray.data_extract];apply Sbc;simp[List.drop_take,List.extract]
theorem Pal {x i j:D}{ds:List D}(h:aY.ssub.run [x,i,j]=some ds) :
  ∃ s ki kj lo hi,x=.str s/\i=.int ki lo/\j=.int kj hi/\0<=lo/\lo<=hi/\hi<=s.length/\ds=[.str ((s.take hi.toNat).drop lo.toNat)]:=by
 cases x<;>cases i<;>cases j<;>simp only[aY.run]at h<;>first|cases h|skip
 split at h
 ·rename_i h1
  simp only[Ob0]at h;exact⟨_,_,_,_,_,rfl,rfl,rfl,h1.1,h1.2.1,h1.2.2,h.symm⟩
 ·cases h
theorem Pay {lo:Bool}{s:SlR}{ei:TI}{p:Pth}{fl:Bool}(yx:Gas ei lo s=(p,fl)){A:Option Addr}{n c sz:Nat}(gj:Sa0 σ ρ G w s (.slice A n c)){rs:List (List D)}(hx:s.x.val ρ=.rows sz rs)
  {l h:Nat} (h1:l<=h) (h2:h<=n) (oc:lo=false->l=0) (fX:fl=true->∀ r∈rs,∀ d∈r,d.isSc=true) {y:aI} (hy:y.val ρ=.rows sz ((rs.take h).drop l)) :
  aB σ ρ G w (.sn s.deps p false y) (.slice (if c=l then A else A.map (·.add (l*sz))) (h-l) (c-l)):=by
 simp only[aB];refine⟨⟨rfl,fun z hz=>?_⟩,fun _=>⟨?_,by simp,?_⟩⟩
 ·obtain⟨m,hl⟩:=gj.live z hz
  exact hl.valid.known
 ·rw[hy]
  exact Rd.part (hx▸gj.rd) h1 h2
 ·rcases Qaz yx with rfl|⟨rfl,r,k,m,q,ho,hq,hc⟩
  ·trivial
  ·intro r2 k2 m2 e2 k9
   have a7:=gj.own;unfold sD at a7;rw[ho]at a7;obtain⟨h3,⟨x1,h4⟩,h5⟩:=a7;rw[h3]at e2;obtain⟨rfl,rfl⟩:r=r2/\k=k2:=by simpa using e2
   obtain⟨x2,uq⟩:=k9;rw[h4]at uq;obtain rfl:m=m2:=by injection uq with uq;injection uq
   have fa:Rp G.own w r [] m (.slice A n c) (.rows sz rs):=by
    rw[<- hx]
    rcases hq with rfl|rfl
    ·simpa[aZ] using h5.2.1
    ·exact h5
   rw[hy];refine fa.part h1 h2 ?_
   rcases hc with hc|hc|hc
   ·exact .inl hc
   ·exact .inr (.inl (oc hc))
   ·exact .inr (.inr (fX hc))
theorem Ta9 {lo:Bool}{s:SlR}{ei:TI}{p:Pth}{fl:Bool}(yx:Gas ei lo s=(p,fl)){A:Option Addr}{n c sz:Nat}(gj:Sa0 σ ρ G w s (.slice A n c)){rs:List (List D)}(hx:s.x.val ρ=.rows sz rs)
  {l:Nat} (h1:l<=n) (oc:lo=false->l=0) (fX:fl=true->∀ r∈rs,∀ d∈r,d.isSc=true) {y:aI} (hy:y.val ρ=.rows sz ((rs.take n).drop l)) {lx:aI} (hl:jT ρ lx=l) :
  aB σ ρ G w (.sn s.deps (Abz p sz lx s) false y) (.slice (if c=l then A else A.map (·.add (l*sz))) (n-l) (c-l)):=by
 have h0:=Pay yx gj hx h1 (Nat.le_refl n) oc fX hy;unfold Abz;split
 ·rename_i r k m ho
  simp only[aB]at h0 ⊢;refine⟨h0.1,fun hv=>⟨(h0.2 hv).1,(h0.2 hv).2.1,?_⟩⟩;intro r2 k2 m2 e2 k9;have a7:=gj.own;unfold sD at a7;rw[ho]at a7;obtain⟨h3,-,-,-,h5⟩:=a7;rw[h3]at e2;obtain⟨rfl,rfl⟩:r=r2/\k=k2:=by simpa using e2
  simp only[aZ,Pbx,wG]at h5;exact⟨A,n,c,h5.symm,by rw[hl];exact h1,by rw[hl]⟩
 ·exact h0
theorem yZ (hR:R E.ntmps F σ ρ a w G)(hg:gOn ρ g=true){lo:Option Operand}{y:aI}
  (h:(match lo with|some a=>rdA E g 0 a|none=>RdM.ret (.c (.int .i64 0)):RdM aI).eval σ=some y) {k:IntKind} {l:Int} (hy:y.val ρ=.int k l) :
  (lo=none/\l=0)\/lo.map a.eval=some (.int k l):=by
 split at h
 ·rename_i x
  have:=iN hR hg h;rw[hy]at this;exact .inr (by rw[Pb6,this.int_inv])
 ·simp only[aF,Ob0]at h
  subst h;simp only[aI.val,D.int.injEq]at hy;exact .inl ⟨rfl,hy.2.symm⟩
theorem Nav (hR:R E.ntmps F σ ρ a w G)(hd:eO E.ntmps o)(hti:sM P E.ti){nv nb nr:Nat}{mv cN:Bool}{t:TypeId}{x:Operand}{lo hi mx:Option Operand}(ho:o.op=.slice t x lo hi mx){res:bI}
  (h:(nL E mv cN nv nb nr g o).eval σ=some res) (hs:aJ cf ρ g nv res.lets):gD P E F σ ρ a w g o Q res.upd:=by
 simp only[nL,ho]at h
 cases mx with
 | some _ =>
  simp only[aA,Oby]at h;obtain⟨_,_,h⟩:=h;cases h
 |none =>
 simp only[aA,Oby,tiR,aT]at h;obtain⟨ti,hi1,l,h1,tz,h2,h⟩:=h;obtain⟨info,u,f⟩:=aV (hti.ok _ _ hi1);split at h
 ·rename_i s
  simp only[aA,Oby,aH]at h;obtain⟨_,fp,h⟩:=h;split at fp
  ·rename_i hb
   simp only[Obz]at hb;obtain rfl:=Aa1 f hb.1;split at h
   ·rename_i h'
    simp only[aA,Oby]at h;obtain⟨hA,h3,h⟩:=h;refine cB hR hd h hs fun hg d hp=>?_
    simp only[Pbn,Pbx]at hp;obtain⟨s',ki,kj,li,fb,e1,e2,e3,e4,e5,e6,e7⟩:=Pal hp;simp only[Qbf,and_true]at e7;have hx:=eU hR hg h1;simp only[aB,e1]at hx;have hh:=iN hR hg h3;rw[e3]at hh;refine⟨_,e7▸.str _,yP ho f.und hx.str_inv (yZ hR hg h2 e2) (.inr ⟨by rw[Pb6,hh.int_inv],e6⟩) e4 e5⟩
   ·obtain rfl:g=none:=tQ (by simpa using hb.2)
    simp only[aF,Ob0]at h;subst h;simp only[Cam];refine⟨fun hg=>?_,fun hg=>by simp[gOn]at hg⟩;obtain⟨d1,h4,h5⟩:=zD hs.1 hg;obtain⟨d2,h6,h7⟩:=zD hs.2.1 hg;simp only[Pbn,Pbx,Step.n]at h4 h6 h7;obtain⟨s',ki,kj,li,fb,e1,e2,e3,e4,e5,e6,e7⟩:=Pal h6;rw[e1]at h4;simp only[aY.run,Ob0,Qbf,and_true]at h4;rw[h5,<- h4]at e3;obtain⟨-,rfl⟩:IntKind.i64=kj/\(s'.length:Int)=fb:=by injection e3 with a b;exact⟨a,b⟩
    have hx:=eU hR hg h1;simp only[aB,e1]at hx;refine Iap hR hd hg (yP (kh:=.i64) ho f.und hx.str_inv (yZ hR hg h2 e2) (.inl ⟨rfl,rfl⟩) e4 e5) ?_;rw[h7];simp only[Qbf,and_true]at e7;rw[e7];exact .str _
  ·cases fp
 ·simp only[aA,Oby,aH]at h
  obtain⟨_,fp,s,h3,ei,h4,h⟩:=h;split at fp
  ·rename_i so
   cases hel':ti.elem with
   |none=>rw[hel']at so;cases so
   |some e =>
   obtain rfl:=nT f hel';rw[hel',Option.getD_some,aT]at h4;obtain⟨ia,u',f'⟩:=aV (hti.ok _ _ h4);generalize yx:Gas ei lo.isSome s=pf at h;obtain⟨p,fl⟩:=pf;dsimp only at h;split at h
   ·rename_i h'
    simp only[aA,Oby]at h;obtain⟨hA,h5,h⟩:=h;split at h
    ·rename_i dp pp z _
     refine dB hR hd h hs fun hg ba=>?_
     obtain⟨d,h6,h7⟩:=fF ba hg;simp only[Pbn,Pbx]at h6;obtain⟨rs,ki,kj,li,fb,e1,e2,e3,e4,e5,e6,e7,e8⟩:=Nar h6;have hl:=eU hR hg h1;have hh:=iN hR hg h5;rw[e3]at hh
     have hz:s.x=.c (.rows z []):=by
      unfold vJ at h3;simp only[aA,Oby]at h3;obtain⟨ds,-,h3⟩:=h3;split at h3
      ·simp only[aF,Ob0]at h3;rw[<- h3]
      ·simp only[aA,aP,Ob6]at h3
       split at h3
       ·simp only[aF,Ob0]at h3;rw[<- h3]
       ·cases h3
      ·simp only[aF,Ob0]at h3;rw[<- h3]
     have fL:a.eval x=.slice none 0 0:=by
      unfold vJ at h3;simp only[aA,Oby]at h3;obtain⟨ds,h3,-⟩:=h3;have eW:=hl;simp only[aB]at eW;exact (eW.2 (iG h3).1).2.1 trivial z rfl
     rw[hz]at e1
     obtain⟨-,rfl⟩:z=ei.size/\[]=rs:=by
      simp only[aI.val]at e1
      injection e1 with a b;exact⟨a,b⟩
     have wk:li=0:=by simp at e7;omega
     have uc:fb=0:=by simp at e7;omega
     subst wk uc;refine⟨a.eval x,hl,?_⟩;rw[sW (kh:=kj) (kl:=ki) (l:=0) (h:=0) ho f.und (f'.sizeOf w) fL (yZ hR hg h2 e2) (.inr ⟨by rw[Pb6,hh.int_inv],by simp⟩) (by omega) (by omega),fL];rfl
    ·refine dB hR hd h hs fun hg ba=>?_
     obtain⟨d,h6,h7⟩:=fF ba hg;simp only[Pbn,Pbx]at h6;obtain⟨rs,ki,kj,li,fb,e1,e2,e3,e4,e5,e6,e7,e8⟩:=Nar h6;have hh:=iN hR hg h5;rw[e3]at hh;have gj:=dI hR h3 (eU hR hg h1);have gA:=gj.rd;rw[e1]at gA;obtain⟨A,b,n,c,vs,i1,i2,i3,-⟩:=gA.inv;rw[i1]at gj;have oc:=yZ hR hg h2 e2;refine⟨_,?_,sW (kh:=kj) ho f.und (f'.sizeOf w) i1 oc (.inr ⟨by rw[Pb6,hh.int_inv],by omega⟩) e5 e6⟩;refine Pay yx gj e1 (by omega) (by omega) (fun hf=>?_) e4 ?_
     ·rcases oc with ⟨-,lO⟩|lO
      ·rw[lO];rfl
      ·cases lo with
       |none=>simp at lO
       |some _=>simp at hf
     ·rw[h7]
      simpa using e8
   ·refine dB hR hd h hs fun hg ba=>?_
    obtain⟨d1,uf,h5⟩:=zD ba.1 hg;obtain⟨d2,h6,h7⟩:=zD ba.2.1 hg;simp only[Pbn,Pbx,Step.n]at uf h6 h7;obtain⟨rs,ki,kj,li,fb,e1,e2,e3,e4,e5,e6,e7,e8⟩:=Nar h6;rw[e1]at uf;simp only[aY.run,Ob0,Qbf,and_true]at uf;rw[h5,<- uf]at e3;obtain⟨-,rfl⟩:IntKind.i64=kj/\(rs.length:Int)=fb:=by injection e3 with a b;exact⟨a,b⟩
    have gj:=dI hR h3 (eU hR hg h1);have gA:=gj.rd;rw[e1]at gA;obtain⟨A,b,n,c,vs,i1,i2,i3,-⟩:=gA.inv;rw[i1]at gj;have oc:=yZ hR hg h2 e2;refine⟨_,?_,sW (kh:=.i64) ho f.und (f'.sizeOf w) i1 oc (.inl ⟨rfl,by rw[i2]⟩) e5 e6⟩;have ko:jT ρ tz=li.toNat:=by unfold jT;rw[e2]
    have hln:((rs.length:Nat):Int).toNat=n:=by rw[Int.toNat_natCast];exact i2
    rw[hln];refine Ta9 (lx:=tz) yx gj e1 (l:=li.toNat) (by omega) (fun hf=>?_) e4 ?_ ko
    ·rcases oc with ⟨-,lO⟩|lO
     ·rw[lO];rfl
     ·cases lo with
      |none=>simp at lO
      |some _=>simp at hf
    ·rw[h7,List.take_of_length_le (by omega:rs.length<=n)]
     simpa using e8
  ·cases fp
end
end Go.Proofs.YtcbkmmhkccnamaaGreat.Rf
