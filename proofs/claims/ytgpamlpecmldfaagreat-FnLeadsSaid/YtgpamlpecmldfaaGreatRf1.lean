import Derived.Calls
import Derived.Laws.Sem
set_option linter.all false
open Array renaming getD_eq_getD_getElem? → Wb2
open List renaming mem_singleton → Vbp, mem_cons → Vbu, append_assoc → Vbx, mem_cons_of_mem → Vb1, mem_cons_self → Vb7, replicate → Wba, getElem?_eq_none → Xbx
open Nat renaming lt_or_ge → Wbc, blt → Xbe, testBit → Xb6, le_succ → Ybq
open Option renaming bind_eq_some_iff → Vbj, bind_some → Vbs, map_some → Wb5
open Prod.mk renaming injEq → Wbd, inj → Xb5
namespace Go.Proofs.YtgpamlpecmldfaaGreat.Rf
inductive D where
 |int (k:IntKind) (n:Int)
 |bool (b:Bool)
 |str (s:List UInt8)
 |rows (sz:Nat) (rs:List (List D))
 |undef
 |hole
 deriving Inhabited
inductive aI where
 |v (i:Nat)
 |c (d:D)
 deriving Inhabited
def aI.val (ρ:List D):aI->D
 |.v i=>ρ.getD i .undef
 |.c d=>d
def aI.ok (n:Nat):aI->Prop
 |.v i=>i<n
 |.c _=>True
theorem aI.val_append {n:Nat}{ρ gn:List D}{x:aI}(h:x.ok ρ.length):x.val (ρ++gn)=x.val ρ:=by
 cases x with
 |c d=>rfl
 | v i =>
  simp only[aI.ok]at h;simp[aI.val,List.getD_eq_getElem?_getD,List.getElem?_append_left h]
inductive aT where
 |bin (op:BinOp)
 |eqb (neg:Bool)
 |not | neg | inv
 |conv (k:IntKind)
 |len | slen
 |row (sz off:Nat) (ks:List Bool)
 |inb
 |set (sz off n:Nat)
 |app (sz bytes:Nat) (fl:Bool)
 |mk (sz n:Nat)
 |make (bytes:Nat) (zero:List D)
 |sub (sz:Nat) (fl:Bool)
 |ssub
 |pick
 |eqs (ks:List Nat)
 |min | max
 |bstr
 |sidx
 |sid
 |ne
 |emp
 |one (sz:Nat)
 |dep (m:Nat)
 |clr (sz:Nat)
 |id
 deriving Inhabited
def iL:Nat:=140737488355328
def zK (op:BinOp)(k:IntKind)(a b:Int):Option D :=
 match op with
 |.add=>some (.int k (k.wrap (a+b)))
 |.sub=>some (.int k (k.wrap (a-b)))
 |.mul=>some (.int k (k.wrap (a*b)))
 |.quo=>if b=0 then none else some (.int k (k.wrap (a.tdiv b)))
 |.rem=>if b=0 then none else some (.int k (a.tmod b))
 |.and=>some (.int k (k.wrap (BitVec.ofInt k.bits a &&& BitVec.ofInt k.bits b).toNat))
 |.or=>some (.int k (k.wrap (BitVec.ofInt k.bits a ||| BitVec.ofInt k.bits b).toNat))
 |.xor=>some (.int k (k.wrap (BitVec.ofInt k.bits a ^^^ BitVec.ofInt k.bits b).toNat))
 |.andNot=>some (.int k (k.wrap (BitVec.ofInt k.bits a &&& ~~~ (BitVec.ofInt k.bits b)).toNat))
 |.eql=>some (.bool (a==b))
 |.neq=>some (.bool (a != b))
 |.lss=>some (.bool (a<b))
 |.leq=>some (.bool (a<=b))
 |.gtr=>some (.bool (a>b))
 |.geq=>some (.bool (a ≥ b))
 |_=>none
def Xaq (op:BinOp)(k:IntKind)(a b:Int):Option D :=
 if b<0 then none else
 match op with
 |.shl=>some (.int k (k.wrap (a*2 ^ (min b.toNat k.bits))))
 |.shr=>some (.int k (a.fdiv (2 ^ (min b.toNat k.bits))))
 |_=>none
def Ib5 (op:BinOp)(a b:List UInt8):Option D :=
 match op with
 |.add=>if a.length+b.length<=4611686018427387904 then some (.str (a++b)) else none
 |.eql=>some (.bool (a==b))
 |.neq=>some (.bool (!(a==b)))
 |.lss=>some (.bool (Op.bytesLess a b))
 |.leq=>some (.bool (Op.bytesLess a b||a==b))
 |.gtr=>some (.bool (!(Op.bytesLess a b||a==b)))
 |.geq=>some (.bool (!(Op.bytesLess a b)))
 |_=>none
def Ma9 (op:BinOp):D->D->Option D
 | .int k a, .int k' b =>
  match op with
  |.shl | .shr=>Xaq op k a b
  |_=>if k=k' then zK op k a b else none
 |.str a,.str b=>Ib5 op a b
 |_,_=>none
def eqD:Nat->D->D->Option Bool
 |0,.int k a,.int k' b=>if k=k' then some (a==b) else none
 |1,.bool a,.bool b=>some (a==b)
 |2,.str a,.str b=>some (a==b)
 |_,_,_=>none
def Qao:List Nat->List D->List D->Option Bool
 |[],[],[]=>some true
 |k::ks,a::as,b::bs=>(eqD k a b).bind fun x=>if x then Qao ks as bs else some false
 |_,_,_=>none
def chunk (sz:Nat):Nat->List D->List (List D)
 |0,_=>[]
 |n+1,l=>l.take sz::chunk sz n (l.drop sz)
def bytesOf:List (List D)->Option (List UInt8)
 |[]=>some []
 |[.int .u8 n]::r=>(bytesOf r).map fun l=>UInt8.ofNat n.toNat::l
 |_=>none
def Kb2 (op:BinOp):D->D->Option D
 |.int k a,.int k' b=>if k=k' then some (.int k (if (match op with | .lss=>b<a | _=>b>a:Bool) then b else a)) else none
 |_,_=>none
def Mat (op:BinOp):D->List D->Option D
 |x,[]=>some x
 |x,y::r=>(Kb2 op x y).bind fun z=>Mat op z r
def D.isSc:D->Bool
 |.int _ _=>true
 |.bool _=>true
 |.str _=>true
 |_=>false
def qH:Nat->D->Bool
 |_,.hole=>true
 |0,d=>d.isSc
 |m+1,.rows _ rs=>rs.all fun r=>r.all fun d=>qH m d
 |_+1,d=>d.isSc
def Daz:List Bool->List D->Bool
 |[],_=>true
 |k::ks,d::ds=>(!k||d.isSc)&&Daz ks ds
 |_::_,[]=>false
def aT.run:aT->List D->Option (List D)
 |.bin op,[a,b]=>(Ma9 op a b).map fun d=>[d]
 |.eqb ng,[.bool a,.bool b]=>some [.bool (if ng then !(a==b) else a==b)]
 |.not,[.bool b]=>some [.bool (!b)]
 |.neg,[.int k n]=>some [.int k (k.wrap (0-n))]
 |.inv,[.int k n]=>(zK .xor k (if k.signed then -1 else k.max) n).map fun d=>[d]
 |.conv k,[.int _ n]=>some [.int k (k.wrap n)]
 |.len,[.rows _ rs]=>some [.int .i64 rs.length]
 |.slen,[.str s]=>some [.int .i64 s.length]
 | .row sz off ks, [.rows nk rs, .int _ i] =>
  if nk=sz/\0<=i then match rs[i.toNat]? with
   |some r=>if off+ks.length<=r.length/\Daz ks (r.drop off)=true then some ((r.drop off).take ks.length) else none
   |none=>none
  else none
 |.inb,[.rows _ rs,.int _ i]=>if 0<=i/\i<rs.length then some [] else none
 | .set sz off n, .rows nk rs :: .int _ i :: vs =>
  if nk=sz/\0<=i then match rs[i.toNat]? with
   |some r=>if off+n<=r.length/\vs.length=n then some [.rows sz (rs.set i.toNat (r.take off++vs++r.drop (off+n)))] else none
   |none=>none
  else none
 |.app sz bytes fl,[.rows nk a,.rows sz'' b]=>if nk=sz/\sz''=sz/\(!fl||(a++b).all fun r=>r.all D.isSc)=true/\(a.length+b.length)*bytes<=iL then some [.rows sz (a++b)] else none
 |.mk sz n,vs=>if vs.length=n*sz then some [.rows sz (chunk sz n vs)] else none
 |.make bytes zero,[.int _ n]=>if 0<=n/\n.toNat*bytes<=iL then some [.rows zero.length (Wba n.toNat zero)] else none
 |.sub sz fl,[.rows nk rs,.int _ lo,.int _ hi]=>if nk=sz/\(!fl||rs.all fun r=>r.all D.isSc)=true/\0<=lo/\lo<=hi/\hi<=rs.length then some [.rows sz ((rs.take hi.toNat).drop lo.toNat)] else none
 |.ssub,[.str s,.int _ lo,.int _ hi]=>if 0<=lo/\lo<=hi/\hi<=s.length then some [.str ((s.take hi.toNat).drop lo.toNat)] else none
 |.pick,[.bool c,a,b]=>some [if c then a else b]
 |.eqs ks,vs=>(Qao ks (vs.take ks.length) (vs.drop ks.length)).map fun b=>[.bool b]
 |.min,x::r=>(Mat .lss x r).map fun d=>[d]
 |.max,x::r=>(Mat .gtr x r).map fun d=>[d]
 |.bstr,[.rows _ rs]=>(bytesOf rs).map fun l=>[.str l]
 | .sidx, [.str s, .int _ i] => if 0 <= i then match s[i.toNat]? with
   |some b=>some [.int .u8 b.toNat]
   |none=>none
  else none
 |.ne,[.rows _ rs]=>if rs.isEmpty then none else some []
 |.emp,[.rows _ rs]=>some [.bool rs.isEmpty]
 |.dep m,[d]=>if qH m d then some [] else none
 |.id,[a]=>some [a]
 |.clr sz,[.rows nk rs,.int _ i]=>if nk=sz/\0<=i then some [.rows sz (rs.take i.toNat++(rs.drop i.toNat).map fun r=>r.map fun _=>.hole)] else none
 |.sid,[.str s]=>some [.str s]
 | .one sz, [.rows nk rs, .int _ i] => if nk = sz /\ 0 <= i then match rs[i.toNat]? with
   |some r=>some [.rows sz [r]]
   |none=>none
  else none
 |_,_=>none
inductive Kind where
 |fall | exit (id:Nat) | ret | cont | yield (i:Nat)
 deriving DecidableEq,Inhabited
inductive Tm (β:Type) where
 |leaf (kind:Kind) (xs:List aI) (ext:β)
 |stuck
 |lt (g:Option (aI×Bool)) (p:aT) (xs:List aI) (n:Nat) (k:Tm β)
 |call (g:Option (aI×Bool)) (f:Nat) (xs:List aI) (n:Nat) (olds:List aI) (k:Tm β)
 |ite (c:aI) (t e:Tm β)
 |bind (i:Nat) (t k:Tm β)
 |loop (init:List aI) (body:Tm β)
 deriving Inhabited
structure Out (β:Type) where
 kind:Kind
 xs:List aI
 ext:β
 env:List D
def Out.vals {β:Type}(o:Out β):List D:=o.xs.map (·.val o.env)
def gOn (ρ:List D):Option (aI×Bool)->Bool
 |none=>true
 | some (x, w) => match x.val ρ with
  |.bool b=>b==w
  |_=>false
def iter {β:Type}:Nat->(List D->Option (Out β))->List D->Option (Out β)
 |0,_,_=>none
 |n+1,f,vs=>(f vs).bind fun o=>if o.kind=.cont then iter n f o.vals else some o
def runT {β:Type}(cf:Nat->List D->Option (List D))(fuel:Nat):Tm β->List D->Option (Out β)
 |.leaf k xs e,ρ=>some ⟨k,xs,e,ρ⟩
 |.stuck,_=>none
 | .lt g p xs n k, ρ =>
  if gOn ρ g then (p.run (xs.map (·.val ρ))).bind fun ds=>if ds.length=n then runT cf fuel k (ρ++ds) else none
  else runT cf fuel k (ρ++Wba n .undef)
 | .call g f xs n olds k, ρ =>
  if gOn ρ g then (cf f (xs.map (·.val ρ))).bind fun ds=>if ds.length=n then runT cf fuel k (ρ++ds) else none
  else runT cf fuel k (ρ++(Wba (n-olds.length) .undef++olds.map (·.val ρ)))
 | .ite c t e, ρ => match c.val ρ with
  |.bool true=>runT cf fuel t ρ
  |.bool false=>runT cf fuel e ρ
  |_=>none
 |.bind i t k,ρ=>(runT cf fuel t ρ).bind fun o=>if o.kind=.yield i then runT cf fuel k (ρ++o.vals) else some o
 |.loop init body,ρ=>iter fuel (fun vs=>runT cf fuel body (ρ++vs)) (init.map (·.val ρ))
inductive Ent where
 |tm (t:Tm Unit)
 |ext (f:List D->Option (List D))
 |none
def Gbq {β:Type}(o:Out β):Option (List D):=if o.kind=.ret then some o.vals else none
def kL (T:Nat->Ent):Nat->Nat->List D->Option (List D)
 |0,_,_=>none
 | n + 1, f, args => match T f with
  |.tm t=>(runT (kL T n) n t args).bind Gbq
  |.ext e=>e args
  |.none=>none
def Qaq {α:Type}(a:Nat->Option α):Prop:=∀ n r,a n=some r->a (n+1)=some r
theorem Qaq.le {α:Type}{a:Nat->Option α}(h:Qaq a){n m:Nat}{r:α}(hn:n<=m)(hr:a n=some r):a m=some r:=by
 induction hn with
 |refl=>exact hr
 |step _ ih=>exact h _ _ ih
open Classical in
noncomputable def lim {α:Type}(a:Nat->Option α):Option α :=
 if h:∃ r n,a n=some r then some h.choose else none
theorem gL {α:Type}{a:Nat->Option α}(h:Qaq a){r:α}:lim a=some r↔∃ n,a n=some r:=by
 unfold lim;constructor
 ·intro e
  split at e
  ·rename_i hx
   obtain⟨n,hn⟩:=hx.choose_spec;cases e;exact⟨n,hn⟩
  ·cases e
 ·rintro⟨n,hn⟩
  have hx:∃ r n,a n=some r:=⟨r,n,hn⟩;rw[dif_pos hx];obtain⟨m,hm⟩:=hx.choose_spec;have h1:=h.le (Nat.le_max_left n m) hn;have h2:=h.le (Nat.le_max_right n m) hm;rw[h1]at h2;exact h2.symm
theorem Dbn {α:Type}{a:Nat->Option α}(h:∀ n,a n=none):lim a=none:=by
 unfold lim;rw[dif_neg]
 rintro⟨r,n,hn⟩
 rw[h]at hn;cases hn
theorem gN {α:Type}(x:Option α):lim (fun _=>x)=x:=by
 cases x with
 |none=>exact Dbn fun _=>rfl
 |some r=>exact (gL (a:=fun _=>some r) fun _ _ h=>h).2 ⟨0,rfl⟩
theorem Qaq.bind {α γ:Type}{a:Nat->Option α}{b:Nat->α->Option γ}(ha:Qaq a)(hb:∀ x,Qaq fun n=>b n x):Qaq fun n=>(a n).bind (b n):=by
 intro n r h;simp only[Vbj]at h ⊢;obtain⟨x,hx,hr⟩:=h;exact⟨x,ha _ _ hx,hb x _ _ hr⟩
theorem Fa9 {α γ:Type}{a:Nat->Option α}{b:Nat->α->Option γ}(ha:Qaq a)(hb:∀ x,Qaq fun n=>b n x) :
  lim (fun n=>(a n).bind (b n))=(lim a).bind fun x=>lim fun n=>b n x:=by
 apply Option.ext;intro r;rw[gL (ha.bind hb)];simp only[Vbj];constructor
 ·rintro⟨n,x,hx,hr⟩
  exact⟨x,(gL ha).2 ⟨n,hx⟩,(gL (hb x)).2 ⟨n,hr⟩⟩
 ·rintro⟨x,hx,hr⟩
  obtain⟨n,hn⟩:=(gL ha).1 hx;obtain⟨m,hm⟩:=(gL (hb x)).1 hr;exact⟨max n m,x,ha.le (Nat.le_max_left ..) hn,(hb x).le (Nat.le_max_right ..) hm⟩
def Le {α γ:Type}(f g:α->Option γ):Prop:=∀ x r,f x=some r->g x=some r
theorem nT {β:Type}{f g:List D->Option (Out β)}(h:Le f g):∀ {n m:Nat},n<=m->Le (iter n f) (iter m g)
 |0,_,_,_,_,hr=>by cases hr
 |n+1,0,tv,_,_,_=>absurd tv (by omega)
 | n + 1, m + 1, tv, vs, r, hr => by
  simp only[iter,Vbj]at hr ⊢;obtain⟨o,ho,hr⟩:=hr;refine⟨o,h _ _ ho,?_⟩;split at hr
  ·rename_i hk
   rw[if_pos hk];exact nT h (by omega) _ _ hr
  ·rename_i hk
   rw[if_neg hk];exact hr
theorem Ga4 {β:Type}{cf cg:Nat->List D->Option (List D)}(h:∀ f,Le (cf f) (cg f)){n m:Nat}(tv:n<=m)(t:Tm β):Le (runT cf n t) (runT cg m t):=by
 induction t with
 |leaf=>exact fun _ _ h=>h
 |stuck=>exact fun _ _ h=>h
 | lt g p xs k' k ih =>
  intro ρ r hr;simp only[runT]at hr ⊢;split at hr
  ·rename_i hg
   rw[if_pos hg];simp only[Vbj]at hr ⊢;obtain⟨ds,hd,hr⟩:=hr;refine⟨ds,hd,?_⟩;split at hr
   ·rename_i hl;rw[if_pos hl];exact ih _ _ hr
   ·cases hr
  ·rename_i hg
   rw[if_neg hg];exact ih _ _ hr
 | call g f xs k' olds k ih =>
  intro ρ r hr;simp only[runT]at hr ⊢;split at hr
  ·rename_i hg
   rw[if_pos hg];simp only[Vbj]at hr ⊢;obtain⟨ds,hd,hr⟩:=hr;refine⟨ds,h _ _ _ hd,?_⟩;split at hr
   ·rename_i hl;rw[if_pos hl];exact ih _ _ hr
   ·cases hr
  ·rename_i hg
   rw[if_neg hg];exact ih _ _ hr
 | ite c t e y6 ihe =>
  intro ρ r hr;simp only[runT]at hr ⊢;split at hr
  ·exact y6 _ _ hr
  ·exact ihe _ _ hr
  ·cases hr
 | bind i t k y6 ihk =>
  intro ρ r hr;simp only[runT,Vbj]at hr ⊢;obtain⟨o,ho,hr⟩:=hr;refine⟨o,y6 _ _ ho,?_⟩;split at hr
  ·rename_i hk;rw[if_pos hk];exact ihk _ _ hr
  ·rename_i hk;rw[if_neg hk];exact hr
 | loop init body ih =>
  intro ρ r hr;simp only[runT]at hr ⊢;exact nT (fun vs r hr=>ih _ _ hr) tv _ _ hr
theorem Eac (T:Nat->Ent):∀ {n m:Nat},n<=m->∀ f,Le (kL T n f) (kL T m f)
 |0,_,_,_,_,_,hr=>by cases hr
 |n+1,0,tv,_,_,_,_=>absurd tv (by omega)
 | n + 1, m + 1, tv, f, args, r, hr => by
  simp only[kL]at hr ⊢;split at hr
  ·simp only[Vbj]at hr ⊢
   obtain⟨o,ho,hr⟩:=hr;exact⟨o,Ga4 (fun f=>Eac T (by omega) f) (by omega) _ _ _ ho,hr⟩
  ·exact hr
  ·cases hr
section
variable (T:Nat->Ent)
noncomputable def Fun (f:Nat)(args:List D):Option (List D):=lim fun n=>kL T n f args
noncomputable def Ev {β:Type}(t:Tm β)(ρ:List D):Option (Out β):=lim fun n=>runT (kL T n) n t ρ
noncomputable def Lp {β:Type}(body:Tm β)(ρ vs:List D):Option (Out β):=lim fun n=>iter n (fun vs=>runT (kL T n) n body (ρ++vs)) vs
variable {T}
theorem Lbs (f:Nat)(args:List D):Qaq fun n=>kL T n f args:=fun n _ h=>Eac T (Ybq n) f _ _ h
theorem Eb1 {β:Type}(t:Tm β)(ρ:List D):Qaq fun n=>runT (kL T n) n t ρ:=fun n _ h=>Ga4 (fun f=>Eac T (Ybq n) f) (Ybq n) t _ _ h
theorem Vbi {β:Type}(body:Tm β)(ρ vs:List D):Qaq fun n=>iter n (fun vs=>runT (kL T n) n body (ρ++vs)) vs :=
 fun n _ h=>nT (fun vs r hr=>Eb1 body _ n r hr) (Ybq n) _ _ h
theorem Gag {f:Nat}{args r:List D}:Fun T f args=some r↔∃ n,kL T n f args=some r:=gL (Lbs f args)
theorem Naf {β:Type}{t:Tm β}{ρ:List D}{o:Out β}:Ev T t ρ=some o↔∃ n,runT (kL T n) n t ρ=some o:=gL (Eb1 t ρ)
theorem Ibe {β:Type}(k:Kind)(xs:List aI)(e:β)(ρ:List D):Ev T (.leaf k xs e) ρ=some ⟨k,xs,e,ρ⟩:=gN _
theorem Lbv {β:Type}(g:Option (aI×Bool))(p:aT)(xs:List aI)(n:Nat)(k:Tm β)(ρ:List D) :
  Ev T (.lt g p xs n k) ρ=if gOn ρ g then (p.run (xs.map (·.val ρ))).bind fun ds=>if ds.length=n then Ev T k (ρ++ds) else none
   else Ev T k (ρ++Wba n .undef):=by
 unfold Ev;simp only[runT];split
 ·rw[Fa9 (a:=fun _=>p.run _) (fun _ _ h=>h)
   (fun ds=>by split;exact Eb1 k _;exact fun _ _ h=>h)]
  rw[gN];congr 1;funext ds;split
  ·rfl
  ·exact gN _
 ·rfl
theorem Ab2 {β:Type}(g:Option (aI×Bool))(f:Nat)(xs:List aI)(n:Nat)(olds:List aI)(k:Tm β)(ρ:List D) :
  Ev T (.call g f xs n olds k) ρ=if gOn ρ g then (Fun T f (xs.map (·.val ρ))).bind fun ds=>if ds.length=n then Ev T k (ρ++ds) else none
   else Ev T k (ρ++(Wba (n-olds.length) .undef++olds.map (·.val ρ))):=by
 unfold Ev;simp only[runT];split
 ·rw[Fa9 (a:=fun n=>kL T n f _) (Lbs f _)
   (fun ds=>by split;exact Eb1 k _;exact fun _ _ h=>h)]
  rw[<- Fun];congr 1;funext ds;split
  ·rfl
  ·exact gN _
 ·rfl
theorem Lbw {β:Type}(c:aI)(t e:Tm β)(ρ:List D) :
  Ev T (.ite c t e) ρ=match c.val ρ with
   |.bool true=>Ev T t ρ
   |.bool false=>Ev T e ρ
   |_=>none:=by
 unfold Ev;simp only[runT];split
 ·rfl
 ·rfl
 ·exact gN _
theorem Ibf {β:Type}(i:Nat)(t k:Tm β)(ρ:List D) :
  Ev T (.bind i t k) ρ=(Ev T t ρ).bind fun o=>if o.kind=.yield i then Ev T k (ρ++o.vals) else some o:=by
 unfold Ev;simp only[runT];rw[Fa9 (a:=fun n=>runT (kL T n) n t ρ) (Eb1 t ρ) (fun o=>by split;exact Eb1 k _;exact fun _ _ h=>h)];congr 1;funext o;split
 ·rfl
 ·exact gN _
theorem Ibd {β:Type}(init:List aI)(body:Tm β)(ρ:List D):Ev T (.loop init body) ρ=Lp T body ρ (init.map (·.val ρ)):=rfl
theorem Ibc {β:Type}(body:Tm β)(ρ vs:List D) :
  Lp T body ρ vs=(Ev T body (ρ++vs)).bind fun o=>if o.kind=.cont then Lp T body ρ o.vals else some o:=by
 have hm:∀ vs,Qaq fun n=>iter n (fun vs=>runT (kL T n) n body (ρ++vs)) vs:=fun vs=>Vbi body ρ vs
 unfold Lp
 have e:∀ vs r,(lim fun n=>iter n (fun vs=>runT (kL T n) n body (ρ++vs)) vs)=some r↔((Ev T body (ρ++vs)).bind fun o=>if o.kind=.cont then (lim fun n=>iter n (fun vs=>runT (kL T n) n body (ρ++vs)) o.vals) else some o)=some r:=by
  intro vs r;rw[gL (hm vs)];simp only[Vbj];constructor
  ·rintro⟨n,hn⟩
   cases n with
   |zero=>cases hn
   | succ n =>
    simp only[iter,Vbj]at hn;obtain⟨o,ho,hr⟩:=hn;refine⟨o,Naf.2 ⟨n+1,ho⟩,?_⟩;split at hr
    ·rename_i hk
     rw[if_pos hk,gL (hm _)];exact⟨n+1,nT (fun _ _ h=>h) (Ybq n) _ _ hr⟩
    ·rename_i hk
     rw[if_neg hk];exact hr
  ·rintro⟨o,ho,hr⟩
   obtain⟨n,hn⟩:=Naf.1 ho;split at hr
   ·rename_i hk
    obtain⟨m,xt⟩:=(gL (hm _)).1 hr;refine⟨max n m+1,?_⟩;simp only[iter,Vbj];refine⟨o,(Eb1 body (ρ++vs)).le (by omega) hn,?_⟩;rw[if_pos hk];exact nT (fun vs r h=>(Eb1 body (ρ++vs)).le (by omega) h) (by omega) _ _ xt
   ·rename_i hk
    refine⟨n+1,?_⟩;simp only[iter,Vbj];exact⟨o,Eb1 body _ _ _ hn,by rw[if_neg hk];exact hr⟩
 exact Option.ext (e vs)
theorem Lbr {f:Nat}{t:Tm Unit}(h:T f=.tm t)(args:List D):Fun T f args=(Ev T t args).bind Gbq:=by
 apply Option.ext;intro r;rw[Gag];simp only[Vbj];constructor
 ·rintro⟨n,hn⟩
  cases n with
  |zero=>cases hn
  | succ n =>
   simp only[kL,h,Vbj]at hn;obtain⟨o,ho,hr⟩:=hn;exact⟨o,Naf.2 ⟨n,ho⟩,hr⟩
 ·rintro⟨o,ho,hr⟩
  obtain⟨n,hn⟩:=Naf.1 ho;refine⟨n+1,?_⟩;simp only[kL,h,Vbj];exact⟨o,hn,hr⟩
theorem Saw {f:Nat}{e:List D->Option (List D)}(h:T f=.ext e)(args:List D):Fun T f args=e args:=by
 apply Option.ext;intro r;rw[Gag];constructor
 ·rintro⟨n,hn⟩
  cases n with
  |zero=>cases hn
  |succ n=>simpa[kL,h] using hn
 ·intro hr
  exact⟨1,by simpa[kL,h] using hr⟩
end
def Tm.strip {β:Type}:Tm β->Tm Unit
 |.leaf k xs _=>.leaf k xs ()
 |.stuck=>.stuck
 |.lt g p xs n k=>.lt g p xs n k.strip
 |.call g f xs n olds k=>.call g f xs n olds k.strip
 |.ite c t e=>.ite c t.strip e.strip
 |.bind i t k=>.bind i t.strip k.strip
 |.loop init body=>.loop init body.strip
def Out.strip {β:Type}(o:Out β):Out Unit:=⟨o.kind,o.xs,(),o.env⟩
theorem Out.strip_vals {β:Type}(o:Out β):o.strip.vals=o.vals:=rfl
theorem Kay {β:Type}{f:List D->Option (Out β)}{g:List D->Option (Out Unit)}(h:∀ vs,g vs=(f vs).map Out.strip):∀ n vs,iter n g vs=(iter n f vs).map Out.strip
 |0,_=>rfl
 | n + 1, vs => by
  simp only[iter,h]
  cases f vs with
  |none=>rfl
  | some o =>
   simp only[Wb5,Vbs];by_cases hk:o.kind=.cont
   ·have:o.strip.kind=.cont:=hk
    rw[if_pos hk,if_pos this,Out.strip_vals];exact Kay h n _
   ·have:¬ o.strip.kind=.cont:=hk
    rw[if_neg hk,if_neg this];rfl
theorem Vao {β:Type}(cf:Nat->List D->Option (List D))(n:Nat)(t:Tm β):∀ ρ,runT cf n t.strip ρ=(runT cf n t ρ).map Out.strip:=by
 induction t with
 |leaf=>exact fun _=>rfl
 |stuck=>exact fun _=>rfl
 | lt g p xs k' k ih =>
  intro ρ;simp only[Tm.strip,runT];split
  ·cases p.run (xs.map (·.val ρ)) with
   |none=>rfl
   | some ds =>
    simp only[Vbs];split
    ·exact ih _
    ·rfl
  ·exact ih _
 | call g f xs k' olds k ih =>
  intro ρ;simp only[Tm.strip,runT];split
  ·cases cf f (xs.map (·.val ρ)) with
   |none=>rfl
   | some ds =>
    simp only[Vbs];split
    ·exact ih _
    ·rfl
  ·exact ih _
 | ite c t e y6 ihe =>
  intro ρ;simp only[Tm.strip,runT];split
  ·exact y6 _
  ·exact ihe _
  ·rfl
 | bind i t k y6 ihk =>
  intro ρ;simp only[Tm.strip,runT,y6]
  cases runT cf n t ρ with
  |none=>rfl
  | some o =>
   simp only[Wb5,Vbs];by_cases hk:o.kind=.yield i
   ·have:o.strip.kind=.yield i:=hk
    rw[if_pos hk,if_pos this,Out.strip_vals];exact ihk _
   ·have:¬ o.strip.kind=.yield i:=hk
    rw[if_neg hk,if_neg this];rfl
 | loop init body ih =>
  intro ρ;simp only[Tm.strip,runT];exact Kay (fun vs=>ih _) _ _
inductive Tr (α:Type) where
 |nil
 |node (x:Option α) (l r:Tr α)
 |over (n:Nat) (x:Option α) (t:Tr α)
 deriving Inhabited
def Tr.get {α:Type}:Tr α->Nat->Option α
 |.nil,_=>none
 |.node x l r,n=>bif Nat.beq n 0 then x else bif Nat.beq (n % 2) 1 then l.get (n / 2) else r.get (n / 2-1)
 |.over m x t,n=>bif Nat.beq n m then x else t.get n
def Tr.set {α:Type}:Nat->Tr α->Nat->Option α->Tr α
 |0,t,n,x=>.over n x t
 |k+1,.node y l r,n,x=>bif Nat.beq n 0 then .node x l r else bif Nat.beq (n % 2) 1 then .node y (Tr.set k l (n / 2) x) r else .node y l (Tr.set k r (n / 2-1) x)
 |k+1,.nil,n,x=>bif Nat.beq n 0 then .node x .nil .nil else bif Nat.beq (n % 2) 1 then .node none (Tr.set k .nil (n / 2) x) .nil else .node none .nil (Tr.set k .nil (n / 2-1) x)
 |_+1,.over m y t,n,x=>.over n x (.over m y t)
inductive CK where
 |sc (z:D)
 |sl (sz:Nat)
 |pn
 |ot
 deriving Inhabited
structure TI where
 agg:Bool
 size:Nat
 bytes:Nat
 cells:List CK
 flds:List (Nat×Nat)
 elem:Option Nat
 ik:Option IntKind
 isBool:Bool
 isStr:Bool
 isPtr:Bool
 cmp:Bool
 deriving Inhabited
def flat (P:Program):Nat->TypeId->Option (List TypeId)
 |0,_=>none
 | d + 1, t =>
  match P.underlying t with
  |some (.struct fs)=>fs.toList.foldl (fun acc f=>acc.bind fun l=>(flat P d f.type).bind fun m=>bif Nat.beq f.offset l.length then some (l++m) else none) (some [])
  |some (.array _ _)=>none
  |some _=>some [t]
  |none=>none
def pG (P:Program)(t:TypeId):CK :=
 match P.underlying t with
 |some (.int k)=>.sc (.int k 0)
 |some .bool=>.sc (.bool false)
 |some .string=>.sc (.str [])
 |some (.slice e)=>.sl (((P.info? e).map (·.size)).getD 0)
 |some (.pointer _)=>.pn
 |_=>.ot
def zeroCell:Value->CK->Bool
 |.int k n,.sc (.int k' n')=>decide (k=k')&&decide (n=0)&&decide (n'=0)
 |.bool b,.sc (.bool b')=>decide (b=false)&&decide (b'=false)
 |.string s,.sc (.str l)=>decide (s.data.toList=[])&&decide (l=[])
 |.slice none 0 0,.sl _=>true
 |.pointer none,.pn=>true
 |_,_=>false
def Saz (agg:Bool)(z:Option Value)(cs:List CK):Bool :=
 match agg,z,cs with
 |true,some (.agg vs),cs=>vs.toList.length==cs.length&&(vs.toList.zip cs).all fun p=>zeroCell p.1 p.2
 |false,some v,[c]=>zeroCell v c
 |_,_,_=>false
def Obl (P:Program)(d:Nat)(t:TypeId):Bool :=
 match flat P d t,P.info? t with
 |some l,some i=>Nat.beq l.length i.size
 |_,_=>false
def Ma3 (P:Program):Nat->TypeId->Bool
 |0,_=>false
 | d + 1, t =>
  match P.underlying t with
  |some (.int _)=>true
  |some .bool=>true
  |some .string=>true
  | some (.struct fs) => !(P.stoodInHeld t) && fs.toList.all fun f => f.name != "_" && Ma3 P d f.type && Obl P d f.type
  |_=>false
def Jar:TypeDesc->Bool
 |.struct _=>true
 |.array _ _=>true
 |_=>false
def Zak:TypeDesc->List (Nat×Nat)
 |.struct fs=>fs.toList.map fun f=>(f.offset,f.type)
 |_=>[]
def Zaw:TypeDesc->Option Nat
 |.slice e=>some e
 |_=>none
def Obp:TypeDesc->Option IntKind
 |.int k=>some k
 |_=>none
def Ra1:TypeDesc->Bool
 |.bool=>true
 |_=>false
def Yay:TypeDesc->Bool
 |.string=>true
 |_=>false
def Yaz:TypeDesc->Bool
 |.pointer _=>true
 |_=>false
def Pb4 (P:Program)(t:TypeId)(i:TypeInfo)(u:TypeDesc)(cs:List CK):TI :=
  { agg:=Jar u,size:=i.size,bytes:=i.bytes,cells:=cs,flds:=Zak u,elem:=Zaw u,ik:=Obp u,isBool:=Ra1 u,isStr:=Yay u,
    isPtr:=Yaz u,cmp:=Jar u&&Ma3 P 12 t&&!(P.eqGuardType P.depth t) }
def Fao (P:Program)(t:TypeId):Option TI :=
 match P.info? t,P.underlying t,(flat P 12 t).map (·.map (pG P)) with
 |some i,some u,some cs=>bif Nat.beq cs.length i.size&&Saz (Jar u) i.zero cs then some (Pb4 P t i u cs) else none
 |_,_,_=>none
inductive Pth where
 |no
 |view
 |path (p:List (aI×Nat×Nat))
 |suf (sz:Nat) (lo:aI)
 deriving Inhabited
inductive aP where
 |dead
 |sc (x:aI)
 |su (g:aI×Bool) (x:aI)
 |ex (r:Nat)
 |sn (deps:List (Nat×Nat)) (p:Pth) (nie:Bool) (x:aI)
 |px (b off:Nat)
 |pe (l:aP) (sz:Nat) (i:aI) (off:Nat)
 |rp (deps:List (Nat×Nat)) (sz:Nat) (x:aI)
 |pn
 |clo (f:Nat) (fS:List aP)
 deriving Inhabited
inductive SV where
 |dead
 |one (l:aP)
 |agg (ls:List aP)
 |tup (vs:List (Bool×List aP))
 deriving Inhabited
inductive RSt where
 |live | frozen | gone
 |fwd (r:Nat)
 deriving DecidableEq,Inhabited
inductive aQ where
 |slot (g:Option (aI×Bool)) (v:SV)
 |box (ro:Bool) (ls:List aP)
 |root (x:aI) (m cy:Nat) (st:RSt)
 deriving Inhabited
def kT (t:Nat):Nat:=3*t
def kB (b:Nat):Nat:=3*b+1
def kR (r:Nat):Nat:=3*r+2
inductive RdM (α:Type) where
 |ret (a:α)
 |no
 |rd (k:Nat) (f:Option aQ->RdM α)
def RdM.bind {α γ:Type}:RdM α->(α->RdM γ)->RdM γ
 |.ret a,f=>f a
 |.no,_=>.no
 |.rd k h,f=>.rd k fun c=>(h c).bind f
instance:Monad RdM:={ pure:=.ret,bind:=.bind }
def RdM.run {α:Type}(look:Nat->Option aQ):RdM α->Option (α×List Nat)
 |.ret a=>some (a,[])
 |.no=>none
 |.rd k f=>((f (look k)).run look).map fun x=>(x.1,k::x.2)
def RdM.eval {α:Type}(look:Nat->Option aQ):RdM α->Option α
 |.ret a=>some a
 |.no=>none
 |.rd k f=>(f (look k)).eval look
def rdK (k:Nat):RdM (Option aQ):=.rd k .ret
def oP {α:Type}:Option α->RdM α
 |some a=>.ret a
 |none=>.no
def bQ (b:Bool):RdM Unit:=bif b then .ret () else .no
inductive Step where
 |prim (p:aT) (xs:List aI) (n:Nat)
 |call (f:Nat) (xs:List aI) (n:Nat) (olds:List aI)
 deriving Inhabited
def Step.n:Step->Nat
 |.prim _ _ n=>n
 |.call _ _ n _=>n
structure bS where
 lets:List Step
 upd:List (Nat×aQ)
 deriving Inhabited
def bM (l:List Step):Nat:=l.foldl (fun s x=>s+x.n) 0
inductive LS where
 |sc
 |fz (nie:Bool)
 |mu (m:Nat)
 |ow (m:Nat)
 |px (b:Nat)
 |clo (f:Nat) (fS:List LS)
 |rp (sz:Nat)
 deriving Inhabited
inductive BS where
 |sc
 |fz (nie:Bool)
 |ow (m:Nat)
 |ot
 deriving Inhabited
inductive BO where
 |sc
 |fz
 |ow (m:Nat)
 |dead
 deriving Inhabited
inductive LR where
 |sc
 |fz
 |ow (m:Nat)
 |rp (sz:Nat)
 |bx (cells:List BO)
 deriving Inhabited
structure Sig where
 fn:Nat
 params:List (Bool×List LS)
 boxes:List (Bool×List (BS×BO))
 results:List (Bool×List LR)
 deriving Inhabited
structure Env where
 ti:Nat->Option TI
 sigs:List (Nat×Sig)
 ntmps:Nat
 ngh:Nat:=0
 freezeEx:Bool:=false
 moveSn:Bool:=false
 nomv:List (Nat×Nat):=[]
 hints:List (Nat×List (Nat×Nat×Nat×Nat)×List Nat×Nat×List Nat):=[]
 pxs:List Nat:=[]
 nbx:Nat:=0
 frl:List Nat:=[]
 deriving Inhabited
def Obu (a b:IntKind):Bool:=decide (a=b)
def D.beq0:D->D->Bool
 |.int k n,.int k' n'=>Obu k k'&&decide (n=n')
 |.bool a,.bool b=>a==b
 |.str a,.str b=>a==b
 |.rows s [],.rows s' []=>Nat.beq s s'
 |.undef,.undef=>true
 |.hole,.hole=>true
 |_,_=>false
def aI.beq0:aI->aI->Bool
 |.v i,.v j=>Nat.beq i j
 |.c a,.c b=>a.beq0 b
 |_,_=>false
def Hbj:Option (aI×Bool)->Option (aI×Bool)->Bool
 |none,none=>true
 |some (a,b),some (c,d)=>a.beq0 c&&(b==d)
 |_,_=>false
def gB:CK->aP
 |.sc z=>.sc (.c z)
 |.sl sz=>.sn [] .no true (.c (.rows sz []))
 |.pn=>.pn
 |.ot=>.dead
def Sag (ti:Nat->Option TI)(t:TypeId):Value->Option SV
 |.int k n=>some (.one (.sc (.c (.int k n))))
 |.bool b=>some (.one (.sc (.c (.bool b))))
 |.string s=>some (.one (.sc (.c (.str s.data.toList))))
 | .slice none 0 0 => match ti t with
  |some { cells:=[.sl sz],.. }=>some (.one (.sn [] .no true (.c (.rows sz []))))
  |_=>none
 |.pointer none=>some (.one .pn)
 |_=>none
section
variable (E:Env)
def noG:Option (aI×Bool)->Bool
 |none=>true
 |some _=>false
def unG (g:Option (aI×Bool)):SV->SV
 |.one (.su h x)=>bif Hbj g (some h) then .one (.sc x) else .one (.su h x)
 |v=>v
def gOk (g:Option (aI×Bool)):Option (aI×Bool)->Bool
 |none=>true
 |g'=>Hbj g g'
def Oap (g:Option (aI×Bool))(t:TypeId):Operand->RdM SV
 | .tmp k => .rd (kT k) fun
  |some (.slot g' v)=>bif gOk g g'&&Xbe k E.ntmps then .ret (unG g v) else .no
  |_=>.no
 |.const v=>oP (Sag E.ti t v)
 |.func f=>.ret (.one (.clo f []))
 |.global _=>.no
def one:SV->RdM aP
 |.one l=>.ret l
 |_=>.no
def rdL (g:Option (aI×Bool))(t:TypeId)(x:Operand):RdM aP:=do one (<- Oap E g t x)
def vK (g:Option (aI×Bool)):aP->Option aI
 |.sc a=>some a
 |.su h a=>bif Hbj g (some h) then some a else none
 |_=>none
def rdA (g:Option (aI×Bool))(t:TypeId)(x:Operand):RdM aI:=do
 oP (vK g (<- rdL E g t x))
def Kam (g:Option (aI×Bool))(h:aI×Bool)(t:TypeId)(x:Operand):RdM aI:=do
 let l <- rdL E g t x
 match vK g l with
 |some a=>.ret a
 |none=>oP (vK (some h) l)
def mkS (g:Option (aI×Bool))(x:aI):SV:=match g with
 |none=>.one (.sc x)
 |some z=>.one (.su z x)
def wJ:List (Nat×Nat)->RdM (List (Nat×Nat))
 |[]=>.ret []
 | (r, k) :: rest => do
  match <- rdK (kR r) with
  | some (.root _ _ cy st) =>
   let ds <- wJ rest
   match st with
   |.frozen=>bif Nat.beq cy k then .ret ds else .no
   |.live=>bif Nat.beq cy k then .ret ((r,k)::ds) else .no
   |_=>.no
  |_=>.no
structure SlR where
 x:aI
 deps:List (Nat×Nat)
 own:Option (Nat×Nat×Nat×Pth)
 nie:Bool
def yH:aP->RdM SlR
 | .ex r => do
  match <- rdK (kR r) with
  |some (.root x m cy .live)=>.ret ⟨x,[(r,cy)],some (r,cy,m,.path []),false⟩
  |some (.root x m cy .frozen)=>.ret ⟨x,[],none,false⟩
  |_=>.no
 | .sn deps p nie x => do
  let ds <- wJ deps
  match p,deps,ds with
  |.no,_,_=>.ret ⟨x,ds,none,nie⟩
  | p, [(r, k)], [_] => do
   match <- rdK (kR r) with
   |some (.root _ m _ .live)=>.ret ⟨x,[(r,k)],some (r,k,m,p),nie⟩
   |_=>.no
  |_,_,_=>.ret ⟨x,ds,none,nie⟩
 |_=>.no
def jV (s:SlR)(i:aI)(sz off:Nat):CK->aI->aP
 |.sc _,y=>.sc y
 | .sl _, y =>
  match s.own with
  |some (r,k,m,.path p)=>bif Nat.ble (p.length+2) m then .sn [(r,k)] (.path (p++[(i,sz,off)])) false y else .sn [] .no false y
  |_=>.sn s.deps .no false y
 |_,_=>.dead
def fG (s:SlR)(i:aI)(sz:Nat):Nat->List CK->Nat->List aP
 |_,[],_=>[]
 |off,c::cs,y=>jV s i sz off c (.v y)::fG s i sz (off+1) cs (y+1)
def kE (agg:Bool):SV->Option (List aP)
 |.one l=>bif agg then none else some [l]
 |.agg ls=>bif agg then some ls else none
 |_=>none
def Tad (agg:Bool)(ls:List aP):Option SV :=
 bif agg then some (.agg ls) else match ls with
  |[l]=>some (.one l)
  |_=>none
def Fad:CK->Nat
 |.sc (.int _ _)=>0
 |.sc (.bool _)=>1
 |.sc (.str _)=>2
 |_=>3
def Gb6:CK->Bool
 |.sc _=>true
 |_=>false
def Nak:List CK->Bool
 |[]=>true
 |.sc _::r=>Nak r
 |_=>false
structure Put where
 xs:List aI
 moves:List (Nat×Nat×Nat)
 holes:List (Nat×Nat×List (aI×Nat×Nat))
 frz:List Nat
 depth:Nat
def big:Nat:=99
def Rar (mv dw:Bool)(off:Nat):aP->RdM Put
 |.sc x=>.ret ⟨[x],[],[],[],big⟩
 | .ex r => do
  match <- rdK (kR r) with
  |some (.root x m cy .live)=>bif mv then .ret ⟨[x],[(off,r,m)],[],[],m⟩ else .ret ⟨[x],[],[],[r],0⟩
  |some (.root x m cy .frozen)=>.ret ⟨[x],[],[],[],0⟩
  |_=>.no
 | .sn deps p nie x => do
  match deps,nie,x with
  |[],true,.c (.rows _ [])=>.ret ⟨[x],[],[],[],big⟩
  | _, _, _ =>
   let s <- yH (.sn deps p nie x)
   match s.own with
   |some (r,k,m,.path q)=>bif dw&&Nat.ble (q.length+1) m then .ret ⟨[x],[],[(off,r,q)],[],m-q.length⟩ else .ret ⟨[x],[],[],[r],0⟩
   |_=>.ret ⟨[x],[],[],s.deps.map (·.1),0⟩
 |_=>.no
def sS (mv dw:Bool):Nat->List aP->RdM Put
 |_,[]=>.ret ⟨[],[],[],[],big⟩
 | off, l :: ls => do
  let a <- Rar mv dw off l
  let b <- sS mv dw (off+1) ls
  .ret ⟨a.xs++b.xs,a.moves++b.moves,a.holes++b.holes,a.frz++b.frz,min a.depth b.depth⟩
def has (l:List Nat)(n:Nat):Bool:=l.any (Nat.beq n)
def meets (a b:List Nat):Bool:=a.any fun x=>has b x
def dV:List Nat->RdM (List (Nat×aQ))
 |[]=>.ret []
 | r :: rs => do
  match <- rdK (kR r) with
  | some (.root x m cy .live) => do
   let l <- dV rs
   .ret ((kR r,.root x m cy .frozen)::l)
  |some (.root _ _ _ .frozen)=>dV rs
  |_=>.no
def distinct:List Nat->Bool
 |[]=>true
 |x::r=>!(has r x)&&distinct r
def La8:Nat->aI->List (aI×Nat×Nat)->aI->List Step×aI
 |_,_,[],y=>([],y)
 | nv, X, (i, sz, off) :: p, y =>
  match p with
  |[]=>([.prim (.set sz off 1) [X,i,y] 1],.v nv)
  | _ =>
   let (l,z):=La8 (nv+1) (.v nv) p y
   let n:=bM l
   ([.prim (.row sz off [false]) [X,i] 1]++l++[.prim (.set sz off 1) [X,i,z] 1],.v (nv+1+n))
def uK (o:Oper)(g:Option (aI×Bool))(lets:List Step)(v:SV)(upd:List (Nat×aQ)):RdM bS :=
 .ret ⟨lets,(match o.dst with|some d=>[(kT d,.slot g v)]|none=>[])++upd⟩
def uJ (o:Oper)(g:Option (aI×Bool))(nv:Nat)(p:aT)(xs:List aI):RdM bS :=
 .ret ⟨[.prim p xs 1],match o.dst with|some d=>[(kT d,.slot none (mkS g (.v nv)))]|none=>[]⟩
def Yaf (o:Oper)(g:Option (aI×Bool))(nv:Nat)(v:SV):RdM bS :=
 match g,v with
 | some _, .one l => match vK g l with
  |some x=>uJ o g nv .id [x]
  |none=>uK o g [] v []
 |_,_=>uK o g [] v []
def atoms:List aP->Option (List aI)
 |[]=>some []
 |.sc x::r=>(atoms r).map (x::·)
 |_=>none
def vL:List SV->Option (List aP)
 |[]=>some []
 |.one l::r=>(vL r).map (l::·)
 |_=>none
def Ia0 (g:Option (aI×Bool)):List aP->Option (List aI)
 |[]=>some []
 |l::r=>(vK g l).bind fun x=>(Ia0 g r).map (x::·)
def tiR (t:TypeId):RdM TI:=oP (E.ti t)
def setRange {α:Type}(ls:List α)(off:Nat)(vs:List α):List α:=ls.take off++vs++ls.drop (off+vs.length)
def Na1:aP->Bool
 |.su _ _=>false
 |_=>true
def Dan (nv:Nat)(mv dw:Bool)(o:Oper)(g:Option (aI×Bool))(ti:TI)(p:aP)(ls:List aP):RdM bS:=do
 bQ (Nat.beq ls.length ti.size&&o.dst.isNone)
 match p with
 | .px b off => do
  match <- rdK (kB b) with
  | some (.box false bs) => do
   bQ (Nat.ble (off+ls.length) bs.length&&noG g&&ls.all Na1)
   .ret ⟨[],[(kB b,.box false (setRange bs off ls))]⟩
  |_=>.no
 | .pe l sz i off => do
  bQ (noG g)
  let s <- yH l
  match s.own with
  | some (r, k, m, .path q) => do
   bQ (Nat.ble (q.length+1) m)
   match <- rdK (kR r) with
   | some (.root X m cy .live) => do
    let pu <- sS mv dw off ls
    let fr <- dV pu.frz
    bQ (!(has pu.frz r)&&!(pu.moves.any fun z=>Nat.beq z.2.1 r)&&pu.holes.isEmpty&&distinct (pu.moves.map (·.2.1))&&!(pu.moves.any fun z=>has pu.frz z.2.1))
    let m':=min m (q.length+1+pu.depth)
    let st1:Step:=.prim (.set sz off ti.size) ([s.x,i]++pu.xs) 1
    let (l2,X'):=La8 (nv+1) X q (.v nv)
    .ret ⟨st1::l2,(kR r,.root X' m' (cy+1) .live)::(pu.moves.map fun z=>(kR z.2.1,.root (.c .hole) 0 0 .gone))++fr⟩
   |_=>.no
  |_=>.no
 |_=>.no
def Sa7 (nv:Nat)(o:Oper)(g:Option (aI×Bool))(ti:TI)(p:aP):RdM bS:=do
 match p with
 | .px b off => do
  match <- rdK (kB b) with
  | some (.box _ bs) =>
   bQ (Nat.ble (off+ti.size) bs.length)
   match Tad ti.agg ((bs.drop off).take ti.size) with
   |some v=>Yaf o g nv v
   |none=>.no
  |_=>.no
 | .pe l sz i off => do
  let s <- yH l
  match Tad ti.agg (fG s i sz off ti.cells nv) with
  |some (.one (.sc x))=>uJ o g nv (.row sz off [true]) [s.x,i]
  |some v=>uK o g [.prim (.row sz off (ti.cells.map Gb6)) [s.x,i] ti.size] v []
  |none=>.no
 |_=>.no
def Qa1 (o:Oper)(g:Option (aI×Bool))(fo:Nat):aP->RdM bS
 |.px b off=>uK o g [] (.one (.px b (off+fo))) []
 |.pe l sz i off=>uK o g [] (.one (.pe l sz i (off+fo))) []
 |_=>.no
def tF (flds:List (Nat×Nat))(ti:Nat->Option TI):List aP->List (Nat×SV)->Option (List aP)
 |ls,[]=>some ls
 | ls, (i, v) :: r =>
  match flds[i]? with
  | some (off, t) => match ti t with
   | some f => match kE f.agg v with
    |some vs=>bif Nat.beq vs.length f.size&&Nat.ble (off+f.size) ls.length then tF flds ti (setRange ls off vs) r else none
    |none=>none
   |none=>none
  |none=>none
def Dav (g:Option (aI×Bool))(ty:Nat->TypeId):List (Nat×Operand)->RdM (List (Nat×SV))
 |[]=>.ret []
 | (i, x) :: r => do
  let v <- Oap E g (ty i) x
  let l <- Dav g ty r
  .ret ((i,v)::l)
def Caw (ti:TI)(len:Nat):List aP->List (Nat×SV)->Option (List aP)
 |ls,[]=>some ls
 | ls, (i, v) :: r =>
  match kE ti.agg v with
  |some vs=>bif Nat.beq vs.length ti.size&&Xbe i len then Caw ti len (setRange ls (i*ti.size) vs) r else none
  |none=>none
def Dbd {α:Type}(l:List α):Nat->List α
 |0=>[]
 |n+1=>l++Dbd l n
def Sa8 (pa:Bool)(y:SlR):RdM (Nat×List (Nat×aQ)×List Nat) :=
 bif pa then .ret (big,[],y.deps.map (·.1)) else
 match y.own with
 | some (r, k, m, .path []) =>
  bif Nat.ble 2 m then .ret (m,[(kR r,.root (.c .hole) 0 0 .gone)],[r]) else .ret (1,[],[r])
 | some (r, k, m, _) => do
  let fr <- dV [r]
  .ret (1,fr,[r])
 | none => match y.x with
  |.c (.rows _ [])=>.ret (big,[],[])
  | _ => do
   let fr <- dV (y.deps.map (·.1))
   .ret (1,fr,y.deps.map (·.1))
def yC (nv nr:Nat)(o:Oper)(ti:TI)(y:SlR)(dy:Nat)(gz:List (Nat×aQ))(sx:aI)(m:Nat)(pre:List Step)(upd:List (Nat×aQ)):RdM bS :=
 uK o none (pre++[.prim (.app ti.size ti.bytes (Nak ti.cells)) [sx,y.x] 1]) (.one (.ex nr))
  ((kR nr,.root (.v (nv+bM pre)) (bif Nak ti.cells then big else min m dy) 0 .live)::upd++gz)
def Lak (nv nr:Nat)(mv dw:Bool)(o:Oper)(ti:TI)(sl yl:aP):RdM bS:=do
 let y <- yH yl
 let pa:=Nak ti.cells
 let (dy,gz,ry) <- Sa8 pa y
 match sl with
 |.sn [] _ true (.c (.rows z []))=>yC nv nr o ti y dy gz (.c (.rows z [])) big [] []
 | _ => do
  let s <- yH sl
  match s.own with
  | some (r, k, m, q) =>
   bQ ((!(has ry r)||pa)&&Nat.ble 1 m)
   match q with
   |.path []=>yC nv nr o ti y dy gz s.x m [] [(kR r,.root (.c .hole) 0 0 .gone)]
   |.view=>bif pa||Nat.beq m 1 then yC nv nr o ti y dy gz s.x m [] [(kR r,.root (.c .hole) 0 0 .gone)] else .no
   | .path q => do
    bQ (Nat.ble (q.length+1) m&&!(has ry r))
    match <- rdK (kR r) with
    | some (.root X m cy .live) =>
     let (l,X'):=La8 nv X q (.c .hole)
     yC nv nr o ti y dy gz s.x (m-q.length) l [(kR r,.root X' m (cy+1) .live)]
    |_=>.no
   |.no=>.no
   |.suf _ _=>.no
  |none=>.no
def jW:List LS->List aP->List (Nat×Nat×Nat)->Option (List (Nat×Nat×Nat))
 |[],[],acc=>some acc
 |.px b::ss,.px c off::ls,acc=>jW ss ls ((b,c,off)::acc)
 |_,_,_=>none
def Oaa:List LS->List aP->Bool
  |[],[]=>true
  | s :: ss, l :: ls =>
    (match s,l with
     |.sc,.sc _=>true
     |.sc,.su _ _=>true
     |.fz _,.ex _=>true
     |.fz _,.sn ..=>true
     |.mu _,.ex _=>true
     |.mu _,.sn ..=>true
     |.ow _,.ex _=>true
     |.ow _,.sn ..=>true
     |.px _,.px _ _=>true
     |.clo f cs,.clo f' kO=>Nat.beq f f'&&Nat.beq cs.length kO.length
     |.rp _,.rp _ _ _=>true
     |_,_=>false)&&Oaa ss ls
  |_,_=>false
def uA:SV->List aP
 |.one l=>[l]
 |.agg ls=>ls
 |_=>[]
def Ob8:SV->Bool
 |.agg _=>true
 |_=>false
def Sam:List (Bool×List LS)->List SV->Bool
 |[],[]=>true
 |(a,ss)::ps,v::vs=>(a==Ob8 v)&&Oaa ss (uA v)&&Sam ps vs
 |_,_=>false
def Ha6 (f:Nat)(vs:List SV):List (Nat×Sig)->Option (Nat×Sig)
 |[]=>none
 |(k,s)::r=>bif Nat.beq s.fn f&&Sam s.params vs then some (k,s) else Ha6 f vs r
inductive RT where
 |nil
 |own (r d:Nat)
 |mu (r d:Nat) (q:List (aI×Nat×Nat)) (X:aI)
 deriving Inhabited
structure Take where
 xs:List aI
 ptrs:List (Nat×Nat×Nat)
 deps:List (Nat×Nat)
 lets:List Step
 rts:List RT
def Take.empty:Take:=⟨[],[],[],[],[]⟩
def Naq (g:Option (aI×Bool))(T:Take)(l:aP):RdM Take:=do
 let x <- oP (vK g l)
 .ret { T with xs:=T.xs++[x] }
def sH (T:Take)(nie:Bool)(l:aP):RdM Take:=do
 let s <- yH l
 .ret { T with xs:=T.xs++[s.x],deps:=T.deps++s.deps,lets:=T.lets++(bif nie&&!s.nie then [.prim .ne [s.x] 0] else []) }
def vI (T:Take)(d:Nat):aP->RdM Take
 | .ex r => do
  match <- rdK (kR r) with
  | some (.root x m cy .live) => do
   bQ (Nat.ble d m)
   .ret { T with xs:=T.xs++[x],rts:=T.rts++[.own r d] }
  |_=>.no
 |.sn [] _ true (.c (.rows z []))=>.ret { T with xs:=T.xs++[.c (.rows z [])],rts:=T.rts++[.nil] }
 |_=>.no
def Jay (T:Take)(d:Nat)(l:aP):RdM Take:=do
 let s <- yH l
 match s.own with
 | some (r, k, m, .path q) => do
  bQ (Nat.ble (q.length+d) m)
  match <- rdK (kR r) with
  |some (.root X _ _ .live)=>.ret { T with xs:=T.xs++[s.x],rts:=T.rts++[.mu r d q X] }
  |_=>.no
 |_=>.no
def Gao (T:Take)(z:Nat):aP->RdM Take
 | .rp deps nk x => do
  let ds <- wJ deps
  .ret { T with xs:=T.xs++[x],deps:=T.deps++ds }
 |.pn=>.ret { T with xs:=T.xs++[.c (.rows z [])] }
 |_=>.no
def tX (g:Option (aI×Bool))(T:Take):LS->aP->RdM Take
 |.sc,l=>Naq g T l
 |.fz nie,l=>sH T nie l
 |.mu d,l=>Jay T d l
 |.ow d,l=>vI T d l
 |.px b,.px c off=>.ret { T with ptrs:=T.ptrs++[(b,c,off)] }
 | .clo f cs, .clo f' ls =>
  match jW cs ls [] with
  |some l=>bif Nat.beq f f' then .ret { T with ptrs:=T.ptrs++l } else .no
  |none=>.no
 |.rp z,l=>Gao T z l
 |_,_=>.no
def dN (g:Option (aI×Bool)):Take->List LS->List aP->RdM Take
 |T,[],[]=>.ret T
 | T, s :: ss, l :: ls => do
  let T <- tX g T s l
  dN g T ss ls
 |_,_,_=>.no
def fK (g:Option (aI×Bool)):Take->List (Bool×List LS)->List SV->RdM Take
 |T,[],[]=>.ret T
 | T, (a, ss) :: ps, v :: vs => do
  let ls <- oP (kE a v)
  let T <- dN g T ss ls
  fK g T ps vs
 |_,_,_=>.no
def Bab (T:Take):BS->aP->RdM Take
 |.sc,.sc x=>.ret { T with xs:=T.xs++[x] }
 |.fz nie,l=>sH T nie l
 |.ow d,l=>vI T d l
 |.ot,l=>bif Na1 l then .ret T else .no
 |_,_=>.no
def eQ:Take->List (BS×BO)->List aP->RdM Take
 |T,[],_=>.ret T
 | T, (s, _) :: ss, l :: ls => do
  let T <- Bab T s l
  eQ T ss ls
 |_,_::_,[]=>.no
def Sbx:List (BS×BO)->Bool
 |[]=>true
 |(.ow _,_)::_=>false
 |_::r=>Sbx r
def pX (b:Nat):List (Nat×Nat×Nat)->Option (Nat×Nat)
 |[]=>none
 |(b',c,off)::r=>bif Nat.beq b' b then some (c,off) else pX b r
def fI (ptrs:List (Nat×Nat×Nat)):Take->Nat->List (Bool×List (BS×BO))->RdM Take
 |T,_,[]=>.ret T
 | T, b, (ro, cs) :: r => do
  match pX b ptrs with
  | some (c, off) => do
   match <- rdK (kB c) with
   | some (.box l7 ls) => do
    bQ (((ro&&Sbx cs)||(!ro&&!l7&&!cs.isEmpty))&&Nat.ble (off+cs.length) ls.length)
    let T <- eQ T cs (ls.drop off)
    fI ptrs T (b+1) r
   |_=>.no
  |none=>.no
def iU (w:Bool)(ptrs:List (Nat×Nat×Nat)):Nat->List (Bool×List (BS×BO))->List Nat
 |_,[]=>[]
 |b,(ro,_)::r=>bif ro==w then (match pX b ptrs with | some (c,_)=>c::iU w ptrs (b+1) r | none=>iU w ptrs (b+1) r) else iU w ptrs (b+1) r
def Tav (nbx:Nat)(ptrs:List (Nat×Nat×Nat)):List (Nat×Nat×Nat)->Bool
 |[]=>true
 |(b,c,off)::r=>Xbe b nbx&&(match pX b ptrs with | some (c',ll)=>Nat.beq c c'&&Nat.beq off ll | none=>false)&&Tav nbx ptrs r
def dD:List RT->List Nat
 |[]=>[]
 |.nil::r=>dD r
 |.own s _::r=>s::dD r
 |.mu s _ _ _::r=>s::dD r
def Xac (s:Sig)(T:Take):Bool :=
 let wr:=iU false T.ptrs 0 s.boxes
 Tav s.boxes.length T.ptrs T.ptrs&&distinct (dD T.rts)&&!(T.deps.any fun d=>has (dD T.rts) d.1)&&distinct wr&&!(meets wr (iU true T.ptrs 0 s.boxes))
def LR.n:LR->Nat
 |.bx cs=>cs.length
 |_=>1
def nZ:List LR->Nat
 |[]=>0
 |s::ss=>s.n+nZ ss
def bxL:List LR->Nat
 |[]=>0
 |.bx _::ss=>1+bxL ss
 |_::ss=>bxL ss
def lD:List (Bool×List LR)->Nat
 |[]=>0
 |(_,ss)::rs=>bxL ss+lD rs
def bO:List (Bool×List LR)->Nat
 |[]=>0
 |(_,ss)::rs=>nZ ss+bO rs
def jX (deps:List (Nat×Nat))(y nr:Nat):BO->aP×List (Nat×aQ)×Nat
 |.sc=>(.sc (.v y),[],nr)
 |.fz=>(.sn deps .no false (.v y),[],nr)
 |.ow m=>(.ex nr,[(kR nr,.root (.v y) m 0 .live)],nr+1)
 |.dead=>(.dead,[],nr)
def eB (deps:List (Nat×Nat)):Nat->Nat->List BO->List aP×List (Nat×aQ)×Nat
 |_,nr,[]=>([],[],nr)
 | y, nr, s :: ss =>
  let (l,u,nr):=jX deps y nr s
  let (ls,us,nr):=eB deps (y+1) nr ss
  (l::ls,u++us,nr)
def dE (gd:Bool)(deps:List (Nat×Nat))(nb y nr:Nat):LR->aP×List (Nat×aQ)×Nat
 |.sc=>(.sc (.v y),[],nr)
 |.fz=>(.sn deps .no false (.v y),[],nr)
 |.ow m=>bif gd then (.sn deps .no false (.v y),[],nr+1) else (.ex nr,[(kR nr,.root (.v y) m 0 .live)],nr+1)
 |.rp sz=>(.rp deps sz (.v y),[],nr)
 | .bx cs =>
  let (ls,us,nr):=eB deps y nr cs
  (.px nb 0,(kB nb,.box false ls)::us,nr)
def dU (gd:Bool)(deps:List (Nat×Nat))(nb:Nat):Nat->Nat->List LR->List aP×List (Nat×aQ)×Nat
 |_,nr,[]=>([],[],nr)
 | y, nr, s :: ss =>
  let (l,u,nr):=dE gd deps nb y nr s
  let (ls,us,nr):=dU gd deps nb (y+s.n) nr ss
  (l::ls,u++us,nr)
def jJ (gd:Bool)(deps:List (Nat×Nat))(nb:Nat):Nat->Nat->List (Bool×List LR)->List (Bool×List aP)×List (Nat×aQ)×Nat
 |_,nr,[]=>([],[],nr)
 | y, nr, (a, s) :: ss =>
  let (l,u,nr):=dU gd deps nb y nr s
  let (ls,us,nr):=jJ gd deps nb (y+nZ s) nr ss
  ((a,l)::ls,u++us,nr)
def mO (ptrs:List (Nat×Nat×Nat))(deps:List (Nat×Nat)):Nat->Nat->Nat->List (Bool×List (BS×BO))->RdM (List (Nat×aQ))
 |_,y,nr,[]=>.ret []
 | b, y, nr, (ro, cs) :: r =>
  bif ro then mO ptrs deps (b+1) y nr r else
  match pX b ptrs with
  | some (c, off) => do
   match <- rdK (kB c) with
   | some (.box false ls) => do
    let (ns,us,nr):=eB deps y nr (cs.map (·.2))
    let rest <- mO ptrs deps (b+1) (y+cs.length) nr r
    .ret ((kB c,.box false (setRange ls off ns))::us++rest)
   |_=>.no
  |none=>.no
def zY:Nat->Nat->List RT->RdM (List Step×List (Nat×aQ))
 |_,_,[]=>.ret ([],[])
 | y, nv, .mu r d q X :: rest => do
  match <- rdK (kR r) with
  | some (.root _ m v .live) => do
   let (l,X'):=La8 nv X q (.v y)
   let (ls,us) <- zY (y+1) (nv+bM l) rest
   .ret ((bif Nat.beq (q.length+d) m then [] else [.prim (.dep d) [.v y] 0])++(l++ls),(kR r,.root X' m (v+1) .live)::us)
  |_=>.no
 |y,nv,_::rest=>zY y nv rest
def gT:List RT->List (Nat×aQ)
 |[]=>[]
 |.own r _::rest=>(kR r,.root (.c .hole) 0 0 .gone)::gT rest
 |_::rest=>gT rest
def fA:List (Bool×List (BS×BO))->Nat
 |[]=>0
 |(ro,cs)::r=>(bif ro then 0 else cs.length)+fA r
def pF:Nat->List BO->List Step
 |_,[]=>[]
 |y,.ow m::r=>.prim (.dep m) [.v y] 0::pF (y+1) r
 |y,_::r=>pF (y+1) r
def Sak:Nat->List LR->List Step
 |_,[]=>[]
 |y,.ow m::r=>.prim (.dep m) [.v y] 0::Sak (y+1) r
 |y,.bx cs::r=>pF y cs++Sak (y+cs.length) r
 |y,_::r=>Sak (y+1) r
def Abb:Nat->List (Bool×List LR)->List Step
 |_,[]=>[]
 |y,(_,ss)::r=>Sak y ss++Abb (y+nZ ss) r
def Abc:Nat->List RT->List Step
 |_,[]=>[]
 |y,.mu _ d _ _::r=>.prim (.dep d) [.v y] 0::Abc (y+1) r
 |y,_::r=>Abc y r
def War:Nat->List (Bool×List (BS×BO))->List Step
 |_,[]=>[]
 |y,(ro,cs)::r=>bif ro then War y r else pF y (cs.map (·.2))++War (y+cs.length) r
def wY:RT->Bool
 |.mu _ _ _ _=>true
 |_=>false
def kX:List (BS×BO)->List aP->RdM (List aI)
 |[],_=>.ret []
 | (s, o) :: ss, l :: ls => do
  let x <- (match s,o,l with
   |.sc,.sc,.sc x=>RdM.ret x
   | .fz _, .fz, l => do
    let r <- yH l
    RdM.ret r.x
   |_,.dead,l=>bif Na1 l then .ret (.c .hole) else .no
   |_,_,_=>.no)
  let r <- kX ss ls
  .ret (x::r)
 |_::_,[]=>.no
def iV (ptrs:List (Nat×Nat×Nat)):Nat->List (Bool×List (BS×BO))->RdM (List aI)
 |_,[]=>.ret []
 | b, (ro, cs) :: r =>
  bif ro then iV ptrs (b+1) r else
  match pX b ptrs with
  | some (c, off) => do
   match <- rdK (kB c) with
   | some (.box false ls) => do
    let l <- kX cs (ls.drop off)
    let m <- iV ptrs (b+1) r
    .ret (l++m)
   |_=>.no
  |none=>.no
def Bax (g:Option (aI×Bool)):List (Bool×List aP)->SV
 |[(false,[.sc x])]=>mkS g x
 |[(false,[l])]=>.one l
 |[(true,ls)]=>.agg ls
 |rs=>.tup rs
def Dbc (g:Option (aI×Bool)):SV->Option (aI×Bool)
 |.one (.su _ _)=>none
 |_=>g
def Eb7 (nv nb nr:Nat)(o:Oper)(g:Option (aI×Bool))(f:Nat)(vs:List SV):RdM bS:=do
 match Ha6 f vs E.sigs with
 |none=>.no
 | some (key, s) => do
  let T <- fK g Take.empty s.params vs
  let T <- fI T.ptrs T 0 s.boxes
  bQ (Xac s T&&Nat.ble (lD s.results) 1&&(noG g||(T.rts.isEmpty&&Nat.beq (lD s.results) 0)))
  let nres:=bO s.results
  let nmu:=(T.rts.filter wY).length
  let total:=nres+nmu+fA s.boxes
  let y0:=nv+bM T.lets
  let (rs,us,w6):=jJ (!noG g) T.deps nb y0 nr s.results
  let bu <- mO T.ptrs T.deps 0 (y0+nres+nmu) w6 s.boxes
  let chk:=bif T.deps.isEmpty then [] else Abb y0 s.results++Abc (y0+nres) T.rts++War (y0+nres+nmu) s.boxes
  let (ml,mu) <- zY (y0+nres) (y0+total) T.rts
  let olds <- (match g with
   |none=>RdM.ret []
   |some _=>iV T.ptrs 0 s.boxes)
  let v:=Bax g rs
  .ret ⟨T.lets++[.call key (T.xs) total olds]++chk++ml,(match o.dst with|some d=>[(kT d,.slot (Dbc g v) v)]|none=>[])++(us++bu++mu++gT T.rts)⟩
def zW (g:Option (aI×Bool)):List Operand->List TypeId->RdM (List SV)
 |[],_=>.ret []
 | x :: xs, ts => do
  let v <- Oap E g (ts.headD 0) x
  let l <- zW g xs ts.tail
  .ret (v::l)
def Pbl:Option IntKind->Bool
 |some k=>Obu k .u8
 |none=>false
def Kaz:Operand->Bool
 |.const (.slice none _ _)=>true
 |_=>false
def Ta6:Operand->Bool
 |.const (.pointer none)=>true
 |_=>false
def Obm (nv:Nat)(o:Oper)(g:Option (aI×Bool))(neg:Bool)(t:TypeId)(x y:Operand):RdM bS:=do
 let a <- Oap E g t x
 let b <- Oap E g t y
 match a,b with
 | .agg ls, .agg ms => do
  let ti <- tiR E t
  match atoms ls,atoms ms with
  | some xs, some ys => do
   bQ (ti.cmp&&Nat.beq xs.length ti.size&&Nat.beq ys.length ti.size)
   let d:=match o.dst with|some d=>[(kT d,aQ.slot none (mkS g (.v (bif neg then nv+1 else nv))))]|none=>[]
   .ret ⟨[.prim (.eqs (ti.cells.map Fad)) (xs++ys) 1]++(bif neg then [.prim .not [.v nv] 1] else []),d⟩
  |_,_=>.no
 | .one l, .one m => do
  let ti <- tiR E t
  match vK g l,vK g m with
  | some p, some q => do
   bif ti.isBool then uJ o g nv (.eqb neg) [p,q] else uJ o g nv (.bin (bif neg then .neq else .eql)) [p,q]
  |_,_ =>
  let res (p:aT) (x:aI):RdM bS :=
   .ret ⟨[.prim p [x] 1]++(bif neg then [.prim .not [.v nv] 1] else []),match o.dst with|some d=>[(kT d,aQ.slot none (mkS g (.v (bif neg then nv+1 else nv))))]|none=>[]⟩
  bif Kaz y then do
   bQ ti.elem.isSome
   let s <- yH l
   let r <- res .emp s.x
   .ret (bif s.nie then r else ⟨.prim .ne [s.x] 0::r.lets,r.upd⟩)
  else bif Ta6 y then do
   bQ ti.isPtr
   match l with
   | .rp deps sz x => do
    let _ <- wJ deps
    res .emp x
   |.pn=>uJ o g nv .id [.c (.bool (!neg))]
   |.px _ _=>uJ o g nv .id [.c (.bool neg)]
   |.pe _ _ _ _=>uJ o g nv .id [.c (.bool neg)]
   |_=>.no
  else .no
 |_,_=>.no
def Jat:List CK->Option (List D)
 |[]=>some []
 |.sc z::r=>(Jat r).map (z::·)
 |.sl sz::r=>(Jat r).map (.rows sz []::·)
 |_::_=>none
def Jau (ei:TI)(lo:Bool)(s:SlR):Pth×Bool :=
 let one (m:Nat):Pth×Bool:=bif Nat.beq m 1||!lo then (.view,false) else bif Nak ei.cells then (.view,true) else (.no,false)
 match s.own with
 |some (_,_,m,.path [])=>one m
 |some (_,_,m,.view)=>one m
 |_=>(.no,false)
def Gba (p:Pth)(sz:Nat)(lo:aI)(s:SlR):Pth :=
 match p,s.own with
 |.no,some (_,_,_,.path [])=>.suf sz lo
 |p,_=>p
def Qa2 (nv:Nat)(o:Oper)(ei:TI)(l:aP):RdM bS:=do
 let s <- yH l
 match s.own with
 | some (r, k, m, .suf sz lo) => do
  bQ (Nat.beq sz 1&&Nat.beq ei.size 1&&Nat.ble 1 m)
  match <- rdK (kR r) with
  |some (.root X m' cy .live)=>.ret ⟨[.prim (.clr 1) [X,lo] 1],(match o.dst with | some d=>[(kT d,.slot none .dead)] | none=>[])++[(kR r,.root (.v nv) m' (cy+1) .live)]⟩
  |_=>.no
 |_=>.no
def qP (mv dw:Bool)(nv nb nr:Nat)(g:Option (aI×Bool))(o:Oper):RdM bS :=
 match o.op with
 |.move x | .assign x=>do Yaf o g nv (<- Oap E g o.type x)
 | .pick c a b => do
  let c <- rdA E g 0 c
  let a <- Kam E g (c,true) o.type a
  let b <- Kam E g (c,false) o.type b
  uJ o g nv .pick [c,a,b]
 | .alloc e => do
  let ti <- tiR E e
  bQ (noG g)
  uK o g [] (.one (.px nb 0)) [(kB nb,.box false (ti.cells.map gB))]
 | .box e x => do
  let ti <- tiR E e
  let v <- Oap E g e x
  match kE ti.agg v with
  | some ls => do
   bQ (Nat.beq ls.length ti.size&&noG g&&ls.all Na1)
   uK o g [] (.one (.px nb 0)) [(kB nb,.box false ls)]
  |none=>.no
 | .build t parts => do
  let ti <- tiR E t
  bQ ti.agg
  let ps <- Dav E g (fun i=>(ti.flds.getD i (0,0)).2) parts.toList
  match tF ti.flds E.ti (ti.cells.map gB) ps with
  |some ls=>uK o g [] (.agg ls) []
  |none=>.no
 | .buildSlice t len parts => do
  let st <- tiR E t
  let e <- oP st.elem
  let ti <- tiR E e
  let ps <- Dav E g (fun _=>e) parts.toList
  bQ (Nat.ble (len*ti.size) 4096&&Xbe 0 ti.size&&Xbe (len*ti.bytes) 4096)
  match Caw ti len (Dbd (ti.cells.map gB) len) ps with
  | some ls => do
   let pu <- sS mv dw 0 ls
   bQ (noG g||(pu.moves.isEmpty&&pu.holes.isEmpty&&pu.frz.isEmpty))
   let fr <- dV pu.frz
   bQ (distinct (pu.moves.map (·.2.1))&&!(pu.moves.any fun z=>has pu.frz z.2.1)&&pu.holes.isEmpty)
   bif noG g then
    uK o g [.prim (.mk ti.size len) pu.xs 1] (.one (.ex nr))
     ((kR nr,.root (.v nv) (min big (pu.depth+1)) 0 .live)::(pu.moves.map fun z=>(kR z.2.1,.root (.c .hole) 0 0 .gone))++fr)
   else uK o g [.prim (.mk ti.size len) pu.xs 1] (.one (.sn [] .no false (.v nv))) []
  |none=>.no
 | .load t a => do
  let ti <- tiR E t
  Sa7 nv o g ti (<- rdL E g 0 a)
 | .store t a x => do
  let ti <- tiR E t
  let p <- rdL E g 0 a
  let v <- Oap E g t x
  match kE ti.agg v with
  |some ls=>Dan nv mv dw o g ti p ls
  |none=>.no
 | .nilCheck x => do
  match <- rdL E g 0 x with
  | .rp deps sz y => do
   let ds <- wJ deps
   uK o g [.prim .ne [y] 0] (.one (.pe (.sn ds .no false y) sz (.c (.int .i64 0)) 0)) []
  |.px b off=>uK o g [] (.one (.px b off)) []
  |.pe l sz i off=>uK o g [] (.one (.pe l sz i off)) []
  |.clo f cs=>uK o g [] (.one (.clo f cs)) []
  |.pn=>uK o g [.prim .ne [.c (.rows 0 [])] 0] (.one (.pe (.sn [] .no false (.c (.rows 0 []))) 0 (.c (.int .i64 0)) 0)) []
  |_=>.no
 |.binOp .eql t x y _=>Obm E nv o g false t x y
 |.binOp .neq t x y _=>Obm E nv o g true t x y
 | .binOp op t x y ty => do
  let a <- rdA E g t x
  let b <- rdA E g ty y
  uJ o g nv (.bin op) [a,b]
 | .unOp op _ x => do
  let a <- rdA E g 0 x
  match op with
  |.not=>uJ o g nv .not [a]
  |.neg=>uJ o g nv .neg [a]
  |.xor=>uJ o g nv .inv [a]
  |_=>.no
 | .convert src dst x => do
  let s <- tiR E src
  let d <- tiR E dst
  match d.ik with
  | some k => do
   bQ s.ik.isSome
   let a <- rdA E g src x
   uJ o g nv (.conv k) [a]
  | none =>
   bif d.isStr then
    bif s.isStr then do
     let a <- rdA E g src x
     uJ o g nv .sid [a]
    else do
     let e <- oP s.elem
     let ei <- tiR E e
     bQ (Pbl ei.ik)
     let r <- yH (<- rdL E g src x)
     uJ o g nv .bstr [r.x]
   else .no
 | .makeFunc (.func f) first fS => do
  bQ first.isEmpty
  let vs <- zW E g fS.toList []
  let ls <- oP (vL vs)
  uK o g [] (.one (.clo f ls)) []
 | .makeSlice t l c => do
  let st <- tiR E t
  let e <- oP st.elem
  let ti <- tiR E e
  bQ (noG g)
  let a <- rdA E g 0 l
  let b <- rdA E g 0 c
  bQ (a.beq0 b&&Xbe 0 ti.size&&Xbe 0 ti.bytes)
  let zs <- oP (Jat ti.cells)
  uK o none [.prim (.make ti.bytes zs) [a] 1] (.one (.ex nr)) [(kR nr,.root (.v nv) big 0 .live)]
 | .slice t x lo hi mx => do
  let ti <- tiR E t
  match mx with
  |some _=>.no
  | none => do
   let l <- rdL E g t x
   let vi <- (match lo with|some a=>rdA E g 0 a|none=>RdM.ret (.c (.int .i64 0)))
   match l with
   | .sc s => do
    bQ (ti.isStr&&(noG g||hi.isSome))
    match hi with
    | some h => do
     let h <- rdA E g 0 h
     uJ o g nv .ssub [s,vi,h]
    | none =>
     .ret ⟨[.prim .slen [s] 1,.prim .ssub [s,vi,.v nv] 1],match o.dst with|some d=>[(kT d,.slot none (mkS g (.v (nv+1))))]|none=>[]⟩
   | l => do
    bQ ti.elem.isSome
    let s <- yH l
    let ei <- tiR E (ti.elem.getD 0)
    let (p,fl):=Jau ei lo.isSome s
    match hi with
    | some h => do
     let h <- rdA E g 0 h
     match l with
     |.sn _ _ true (.c (.rows z []))=>uK o g [.prim (.sub ei.size fl) [s.x,vi,h] 1] (.one l) []
     |_=>uK o g [.prim (.sub ei.size fl) [s.x,vi,h] 1] (.one (.sn s.deps p false (.v nv))) []
    | none =>
     uK o g [.prim .len [s.x] 1,.prim (.sub ei.size fl) [s.x,vi,.v nv] 1] (.one (.sn s.deps (Gba p ei.size vi s) false (.v (nv+1)))) []
 | .fieldAddr t x f => do
  let ti <- tiR E t
  match ti.flds[f]? with
  | some (off, ft) => do
   let fi <- tiR E ft
   bQ (Xbe 0 fi.size)
   Qa1 o g off (<- rdL E g 0 x)
  |none=>.no
 | .field t x f => do
  let ti <- tiR E t
  match ti.flds[f]? with
  | some (off, ft) => do
   let fi <- tiR E ft
   match <- Oap E g t x with
   | .agg ls => do
    bQ (Nat.ble (off+fi.size) ls.length&&Nat.beq ls.length ti.size)
    match Tad fi.agg ((ls.drop off).take fi.size) with
    |some v=>Yaf o g nv v
    |none=>.no
   |_=>.no
  |none=>.no
 | .indexAddr t x i => do
  let ti <- tiR E t
  let e <- oP ti.elem
  let ei <- tiR E e
  let l <- rdL E g t x
  let s <- yH l
  let a <- rdA E g 0 i
  bQ (Xbe 0 ei.size)
  uK o g [.prim .inb [s.x,a] 0] (.one (.pe l ei.size a 0)) []
 | .index t x i => do
  let ti <- tiR E t
  bQ ti.isStr
  let s <- rdA E g t x
  let a <- rdA E g 0 i
  uJ o g nv .sidx [s,a]
 | .extract x i => do
  match <- Oap E g 0 x with
  | .tup vs => match vs[i]? with
   | some (a, ls) => match Tad a ls with
    |some v=>Yaf o g nv v
    |none=>.no
   |none=>.no
  |_=>.no
 | .call { callee := .builtin b, args, argTypes } => do
  match b,args.toList with
  | .len, [x] => do
   let t <- oP argTypes[0]?
   let ti <- tiR E t
   let l <- rdL E g t x
   match vK g l with
   | some a => do
    bQ ti.isStr
    uJ o g nv .slen [a]
   | none => do
    bQ ti.elem.isSome
    let s <- yH l
    uJ o g nv .len [s.x]
  | .append, [x, y] => do
   let t <- oP argTypes[0]?
   let ty <- oP argTypes[1]?
   let ti <- tiR E t
   let e <- oP ti.elem
   let ei <- tiR E e
   let yi <- tiR E ty
   bQ (yi.elem.isSome&&Xbe 0 ei.size&&noG g&&Xbe 0 ei.bytes&&Nat.beq argTypes.size 2)
   Lak nv nr mv dw o ei (<- rdL E g t x) (<- rdL E g ty y)
  | .clear, [x] => do
   let t <- oP argTypes[0]?
   let ti <- tiR E t
   let e <- oP ti.elem
   let ei <- tiR E e
   bQ (noG g&&Nat.beq argTypes.size 1)
   Qa2 nv o ei (<- rdL E g t x)
  | .min, xs => do
   let vs <- zW E g xs argTypes.toList
   let as <- oP ((vL vs).bind (Ia0 g))
   uJ o g nv .min as
  | .max, xs => do
   let vs <- zW E g xs argTypes.toList
   let as <- oP ((vL vs).bind (Ia0 g))
   uJ o g nv .max as
  |_,_=>.no
 | .call { callee := .value f, args, argTypes } => do
  match <- rdL E g 0 f with
  | .clo fn fS => do
   let vs <- zW E g args.toList argTypes.toList
   Eb7 E nv nb nr o g fn (vs++fS.map .one)
  |_=>.no
 |_=>.no
end
def kK {α:Type}(n:Nat):Option α:=none
structure St where
 tr:Tr aQ
 nv:Nat
 nb:Nat
 nr:Nat
 nt:Nat
 deriving Inhabited
def vT (nt nb nr k:Nat):Bool :=
 bif Nat.beq (k % 3) 0 then Xbe (k / 3) nt else bif Nat.beq (k % 3) 1 then Xbe (k / 3) nb else Xbe (k / 3) nr
def St.get (s:St)(k:Nat):Option aQ:=bif vT s.nt s.nb s.nr k then s.tr.get k else none
def aY (n:Nat):aI->Bool
 |.v i=>Xbe i n
 |.c _=>true
def Daq (n:Nat):Step->Bool
 |.prim _ xs _=>xs.all (aY n)
 |.call _ xs k olds=>xs.all (aY n)&&olds.all (aY n)&&Nat.ble olds.length k
def fD:Nat->List Step->Bool
 |_,[]=>true
 |n,s::r=>Daq n s&&fD (n+s.n) r
def qG (n:Nat):Option (aI×Bool)->Bool
 |none=>true
 |some (x,_)=>aY n x
def St.put (s:St)(k:Nat)(c:Option aQ):St:={ s with tr:=s.tr.set 16 k c }
def St.puts (s:St):List (Nat×aQ)->St
 |[]=>s
 |(k,c)::r=>(s.put k (some c)).puts r
def La0 (ops:List Oper)(o:Oper):RdM (Option (aI×Bool)) :=
 match o.guard with
 |none=>.ret none
 | some (j, want) =>
  match (ops[j]?).bind (·.dst) with
  | some d => .rd (kT d) fun
   |some (.slot none (.one (.sc x)))=>.ret (some (x,want))
   |some (.slot none (.one (.su _ x)))=>.ret (some (x,want))
   |_=>.no
  |none=>.no
def cK:Nat:=16
def zJ (n nb nr k:Nat):Bool :=
 bif Nat.beq (k % 3) 0 then Xbe (k / 3) n else bif Nat.beq (k % 3) 1 then Nat.ble (k / 3) nb else Xbe (k / 3) (nr+cK)
def Vaw:List (Nat×aQ)->Nat->Option aQ
 |[],_=>none
 | (k', c) :: r, k => match Vaw r k with
  |some d=>some d
  |none=>bif Nat.beq k' k then some c else none
def RdM.over {α:Type}(u:List (Nat×aQ)):RdM α->RdM α
 |.ret a=>.ret a
 |.no=>.no
 | .rd k f => match Vaw u k with
  |some c=>(f (some c)).over u
  |none=>.rd k fun c=>(f c).over u
def Bah:Bool->Op->Option Nat
 |true,.store _ _ (.tmp t)=>some t
 | true, .buildSlice _ _ parts => match parts.toList with
  |[(_,.tmp t)]=>some t
  |_=>none
 |_,_=>none
def Mac:Bool->Oper->Option Nat
 | true, o => match o.op with
  |.load _ _=>o.dst
  |_=>none
 |false,_=>none
def Ja4 (E:Env)(nv nr t:Nat):RdM (Option (List Step×List (Nat×aQ))):=do
 match <- rdK (kT t) with
 | some (.slot none (.one (.sn deps (.path (p :: ps)) nie x))) => do
  let s <- yH (.sn deps (.path (p::ps)) nie x)
  match s.own with
  | some (r, k, m, .path (q :: qs)) =>
   bif Nat.ble (qs.length+2) m&&Xbe t E.ntmps then do
    match <- rdK (kR r) with
    | some (.root X m' cy .live) =>
     let (l,X'):=La8 nv X (q::qs) (.c .hole)
     .ret (some (l,[(kT t,.slot none (.one (.ex nr))),(kR nr,.root s.x (m-(qs.length+1)) 0 .live),(kR r,.root X' m (cy+1) .live)]))
    |_=>.ret none
   else .ret none
  |_=>.ret none
 |_=>.ret none
def Uaa (l:List Nat):Bool->Oper->Option Nat
 | true, o => match o.op with
  |.load t _=>bif has l t then o.dst else none
  |.build t _=>bif has l t then o.dst else none
  |_=>none
 |false,_=>none
def Saa:List aP->List Nat
 |[]=>[]
 |.ex r::l=>r::Saa l
 |_::l=>Saa l
def Pbm (t:Nat):RdM (List (Nat×aQ)):=do
 match <- rdK (kT t) with
 |some (.slot none (.agg ls))=>dV (Saa ls)
 |_=>.ret []
def Ua6 (E:Env)(mv dw:Bool)(nv nb nr:Nat)(g:Option (aI×Bool))(o:Oper):RdM bS :=
 match Bah (dw&&noG g) o.op with
 | none => match Mac (dw && noG g && !mv) o with
  | none => match Uaa E.frl (noG g) o with
   |none=>qP E mv dw nv nb nr g o
   | some t => do
    let r <- qP E mv dw nv nb nr g o
    let u <- (Pbm t).over r.upd
    .ret ⟨r.lets,r.upd++u⟩
  | some t => do
   let r <- qP E mv dw nv nb nr g o
   match <- (Ja4 E (nv+bM r.lets) nr t).over r.upd with
   |some (l,u)=>.ret ⟨r.lets++l,r.upd++u⟩
   |none=>.ret r
 | some t => do
  match <- Ja4 E nv nr t with
  | some (l, u) => do
   let r <- (qP E mv false (nv+bM l) nb (nr+1) g o).over u
   .ret ⟨l++r.lets,u++r.upd⟩
  |none=>qP E mv false nv nb nr g o
def lY (E:Env)(ops:List Oper)(mv dw:Bool)(nv nb nr:Nat)(o:Oper):RdM (Option (aI×Bool)×bS):=do
 let g <- La0 ops o
 bQ (match o.dst with|some d=>Xbe d E.ntmps|none=>true)
 let r <- Ua6 E mv dw nv nb nr g o
 bQ (r.upd.all fun x=>zJ E.ntmps nb nr x.1)
 .ret (g,r)
structure OpI where
 g:Option (aI×Bool)
 res:bS
 log:List Nat
 nb:Nat
 nr:Nat
 deriving Inhabited
def oL (t:Tr aQ)(r:Nat):Nat->Bool
 |0=>true
 |n+1=>(t.get (kR r)).isNone&&oL t (r+1) n
def Ba3 (n:Nat):Pth->Bool
 |.path p=>p.all fun x=>aY n x.1
 |.suf _ x=>aY n x
 |_=>true
mutual
def aP.inScope (n:Nat):aP->Bool
 |.sc x=>aY n x
 |.su g x=>aY n x&&aY n g.1
 |.sn _ p _ x=>aY n x&&Ba3 n p
 |.pe l _ i _=>l.inScope n&&aY n i
 |.rp _ _ x=>aY n x
 |.clo _ l=>bG n l
 |_=>true
def bG (n:Nat):List aP->Bool
 |[]=>true
 |a::r=>a.inScope n&&bG n r
end
def yD (n:Nat):SV->Bool
 |.dead=>true
 |.one l=>l.inScope n
 |.agg ls=>bG n ls
 |.tup vs=>vs.all fun v=>bG n v.2
def dA (n:Nat):aQ->Bool
 |.slot g v=>qG n g&&yD n v
 |.box _ ls=>bG n ls
 |.root x _ _ _=>aY n x
def Dbk (s:St)(g:Option (aI×Bool))(r:bS):Bool :=
 (s.tr.get (kB s.nb)).isNone&&oL s.tr s.nr cK&&qG s.nv g&&fD s.nv r.lets&&r.upd.all fun x=>dA (s.nv+bM r.lets) x.2
def Ibo:List (Nat×aQ)->Nat->Nat
 |[],n=>n
 |x::r,n=>Ibo r (bif Nat.beq (x.1 % 3) 2&&Nat.ble n (x.1 / 3) then x.1 / 3+1 else n)
def Sal (draw:Bool)(n:Nat)(u:List (Nat×aQ)):Nat:=bif draw then n+cK else Ibo u n
def Nap (t:Tr aQ)(lo:Nat):Nat->Nat
 |0=>lo
 |n+1=>bif (t.get (kR (lo+n))).isNone then Nap t lo n else lo+n+1
def trimS (draw:Bool)(lo:Nat)(s:St):St:=bif draw&&Nat.ble lo s.nr then { s with nr:=Nap s.tr lo (s.nr-lo) } else s
def Pbn (l:List (Nat×Nat))(r i:Nat):Bool:=l.any fun p=>Nat.beq p.1 r&&Nat.beq p.2 i
def Xai (E:Env)(draw:Bool)(kq:Nat)(ops:List Oper):Nat->List Oper->St->List OpI->Sum (List OpI×St) (Nat×St×List OpI)
 |_,[],s,acc=>.inl (acc.reverse,s)
 | i, o :: os, s, acc =>
  let fl:=Pbn E.nomv kq i
  match (lY E ops (xor (!E.freezeEx) fl) (xor E.moveSn fl) s.nv s.nb s.nr o).run s.get with
  | some ((g, r), log) =>
   bif !(Dbk s g r) then .inr (i,s,acc) else Xai E draw kq ops (i+1) os { (s.puts r.upd) with nv:=s.nv+bM r.lets,nb:=s.nb+1,nr:=Sal draw s.nr r.upd } ({ g,res:=r,log,nb:=s.nb,nr:=s.nr }::acc)
  |none=>.inr (i,s,acc)
def Aag (acc:List Nat):List Edge->Nat->Nat
 |[],m=>m
 |e::es,m=>Aag acc es (bif Region.binds .any e then (m ||| 2 ^ e.on) ||| acc.getD e.on 0 else m)
def waits:List Oper->List Nat->List Nat
 |[],acc=>acc
 |o::os,acc=>waits os (acc++[Aag acc o.after.toList 0])
def Caz:List Oper->Nat->Bool
 |[],_=>true
 |o::os,i=>(o.after.toList.all fun e=>!(Region.binds .any e)||Xbe e.on i)&&Caz os (i+1)
def Man (a:OpI)(k:Nat):Bool:=bif Nat.beq (k % 3) 1 then Nat.beq (k / 3) a.nb else bif Nat.beq (k % 3) 2 then Nat.ble a.nr (k / 3)&&Xbe (k / 3) (a.nr+cK) else false
def rM (a b:OpI):Bool :=
 let wa:=a.res.upd.map (·.1)
 let wb:=b.res.upd.map (·.1)
 !(meets wa b.log)&&!(meets wa wb)&&!(meets a.log wb)&&!(wb.any (Man a))
def Cao (a:OpI)(i:Nat):List OpI->List Nat->Bool
 |[],_=>true
 |b::bs,w::ws=>(Xb6 w i||rM a b)&&Cao a i bs ws
 |_::_,[]=>false
def wN:List OpI->List Nat->Nat->Bool
 |[],_,_=>true
 |a::as,ws,i=>Cao a i as ws.tail&&wN as ws.tail (i+1)
def pR (g:Option (aI×Bool))(k:Tm St):List Step->Tm St
 |[]=>k
 |.prim p xs n::r=>.lt g p xs n (pR g k r)
 |.call f xs n olds::r=>.call g f xs n olds (pR g k r)
def Gas (k:Tm St):List OpI->Tm St
 |[]=>k
 |a::r=>pR a.g (Gas k r) a.res.lets
def Laj (E:Env)(po:Bool)(kq:Nat)(ops:List Oper)(draw:Bool)(s:St):Tm St :=
 match Xai E draw kq ops 0 ops s [] with
 | .inl (is, s') =>
  bif !draw||(Caz ops 0&&wN is (waits ops []) 0) then Gas (.leaf .fall [] (trimS draw s.nr s')) is
  else bif po then .leaf (.exit (1000000+kq*1000+999)) [] s else .stuck
 |.inr (i,s',is)=>bif po then .leaf (.exit (1000000+kq*1000+i)) [] s' else .stuck
def Yai:Operand->Nat
 |.tmp t=>2 ^ t
 |_=>0
def Dbi (o:Oper):Nat:=o.op.operands.toList.foldl (fun m x=>m ||| Yai x) 0
def Yar:List Oper->Nat->Nat
 |[],l=>l
 | o :: os, l =>
  let m:=Yar os l
  let m:=match o.dst,o.guard with
   |some d,none=>bif Xb6 m d then m-2 ^ d else m
   |_,_=>m
  m ||| Dbi o
def Uah:List (Nat×Nat)->Nat->Nat
 |[],_=>0
 |(i,m)::r,j=>bif Nat.beq i j then m else Uah r j
def Jah:Code->List (Nat×Nat)->Nat->Nat->Nat
 |.region _ ops _,_,_,l=>Yar ops.toList l
 |.seq a b,ex,rb,l=>Jah a ex rb (Jah b ex rb l)
 |.cond c a b,ex,rb,l=>Yai c ||| Jah a ex rb l ||| Jah b ex rb l
 |.block id b,ex,rb,l=>Jah b ((id,l)::ex) rb l
 |.loop b,ex,rb,_=>Jah b ex rb (Jah b ex rb (Jah b ex rb 0))
 |.exit id,ex,_,_=>Uah ex id
 |.ret,_,rb,_=>rb
 |_,_,_,l=>l
inductive Form where
 |sc
 |nil (z:Nat)
 |ex (m:Nat)
 |sn
 |pn
 |rp (z:Nat)
 |keep (l:aP)
 |alias (i:Nat)
 |dead
 deriving Inhabited
def Kap:List (aI×Nat×Nat)->List (aI×Nat×Nat)->Bool
 |[],[]=>true
 |(a,b,c)::r,(a',b',c')::r'=>a.beq0 a'&&Nat.beq b b'&&Nat.beq c c'&&Kap r r'
 |_,_=>false
def Pth.beq0:Pth->Pth->Bool
 |.no,.no=>true
 |.view,.view=>true
 |.path p,.path q=>Kap p q
 |.suf a x,.suf b y=>Nat.beq a b&&x.beq0 y
 |_,_=>false
def xL:List (Nat×Nat)->List (Nat×Nat)->Bool
 |[],[]=>true
 |(a,b)::r,(a',b')::r'=>Nat.beq a a'&&Nat.beq b b'&&xL r r'
 |_,_=>false
mutual
def aP.beq0:aP->aP->Bool
 |.dead,.dead=>true
 |.sc x,.sc y=>x.beq0 y
 |.su g x,.su h y=>g.1.beq0 h.1&&(g.2==h.2)&&x.beq0 y
 |.ex r,.ex r'=>Nat.beq r r'
 |.sn d p n x,.sn d' p' n' x'=>xL d d'&&p.beq0 p'&&(n==n')&&x.beq0 x'
 |.px b o,.px b' o'=>Nat.beq b b'&&Nat.beq o o'
 |.pe l s i o,.pe l' s' i' o'=>l.beq0 l'&&Nat.beq s s'&&i.beq0 i'&&Nat.beq o o'
 |.rp d s x,.rp d' s' x'=>xL d d'&&Nat.beq s s'&&x.beq0 x'
 |.pn,.pn=>true
 |.clo f l,.clo f' l'=>Nat.beq f f'&&sW l l'
 |_,_=>false
def sW:List aP->List aP->Bool
 |[],[]=>true
 |a::r,b::s=>a.beq0 b&&sW r s
 |_,_=>false
end
def Baw (a b:RSt):Bool:=decide (a=b)
def Tar (nv:Nat)(r:Nat):List St->Bool
 |[]=>true
 | s :: rest => match s.get (kR r) with
  | some (.root x m v st) => aY nv x && rest.all fun s' => match s'.get (kR r) with
   |some (.root x' m' v' ua)=>x.beq0 x'&&Nat.beq m m'&&Nat.beq v v'&&Baw st ua
   |_=>false
  |_=>false
mutual
def Caf:aP->List Nat
 |.ex r=>[r]
 |.sn d _ _ _=>d.map (·.1)
 |.rp d _ _=>d.map (·.1)
 |.pe l _ _ _=>Caf l
 |.clo _ l=>Hal l
 |_=>[]
def Hal:List aP->List Nat
 |[]=>[]
 |a::r=>Caf a++Hal r
end
def Zai (s:St):aP->Form
 |.sc _=>.sc
 | .ex r => match s.get (kR r) with
  |some (.root _ m _ .live)=>.ex m
  |some (.root _ _ _ .frozen)=>.sn
  |_=>.dead
 |.sn _ _ true (.c (.rows z []))=>.nil z
 | .sn d p _ _ => match p, d with
  | .view, [(r, k)] => match s.get (kR r) with
   |some (.root _ m v .live)=>bif Nat.beq v k then .ex m else .dead
   |some (.root _ _ _ .frozen)=>.sn
   |_=>.dead
  |_,_=>.sn
 |.pn=>.pn
 |.rp _ z _=>.rp z
 |.pe _ z _ o=>bif Nat.beq o 0 then .rp z else .dead
 |_=>.dead
def Mah:Form->Form->Form
 |.sc,.sc=>.sc
 |.nil z,.nil _=>.nil z
 |.nil _,.ex m=>.ex m
 |.ex m,.nil _=>.ex m
 |.ex m,.ex m'=>.ex (min m m')
 |.nil _,.sn=>.sn
 |.sn,.nil _=>.sn
 |.ex _,.sn=>.sn
 |.sn,.ex _=>.sn
 |.sn,.sn=>.sn
 |.pn,.pn=>.pn
 |.pn,.rp z=>.rp z
 |.rp z,.pn=>.rp z
 |.rp z,.rp _=>.rp z
 |_,_=>.dead
def wU (k j:Nat)(s:St):aP :=
 match s.get k with
 |some (.slot none v)=>(uA v).getD j .dead
 |some (.box _ ls)=>ls.getD j .dead
 |_=>.dead
def Lbe (nv k j:Nat)(jr:List St):Form :=
 match jr with
 |[]=>.dead
 | s :: rest =>
  let l:=wU k j s
  bif l.inScope nv&&rest.all (fun s'=>l.beq0 (wU k j s'))&&(Caf l).all (fun r=>Tar nv r (s::rest)) then .keep l
  else rest.foldl (fun f s'=>Mah f (Zai s' (wU k j s'))) (Zai s l)
def Kb9:Form->Bool
 |.keep _=>true
 |_=>false
structure Pos where
 k:Nat
 j:Nat
 f:Form
 deriving Inhabited
def Xar:Option aQ->Option aQ->Bool
 |some (.slot none (.one _)),some (.slot none (.one _))=>true
 |some (.slot none (.agg a)),some (.slot none (.agg b))=>Nat.beq a.length b.length
 |some (.box r a),some (.box r' b)=>(r==r')&&Nat.beq a.length b.length
 |_,_=>false
def Hbq:Option aQ->Nat
 |some (.slot none v)=>(uA v).length
 |some (.box _ ls)=>ls.length
 |_=>0
def Gbv (old:List Pos)(k j:Nat):Option Form:=(old.find? fun p=>Nat.beq p.k k&&Nat.beq p.j j).map (·.f)
def Fbm (s:St)(k j:Nat):Option Nat :=
 match wU k j s with
 |.ex r=>some r
 |_=>none
def Lba:Form->Bool
 |.ex _=>true
 |_=>false
def aliasOf (jr:List St)(k j:Nat):List Pos->Nat->Option Nat
 |[],_=>none
 | p :: ps, i =>
  bif Lba p.f&&jr.all fun s=>match Fbm s k j,Fbm s p.k p.j with
   |some r,some r'=>Nat.beq r r'
   |_,_=>false
  then some i else aliasOf jr k j ps (i+1)
def Yak:Form->Form
 |.alias _=>.ex 1000
 |f=>f
def Yab (nv:Nat)(jr:List St)(old:List Pos)(k:Nat):Nat->Nat->List Pos->List Pos
 |0,_,acc=>acc
 | n + 1, j, acc =>
  let f:=Lbe nv k j jr
  let f:=match Gbv old k j,f with
   | some f0, .keep l => match jr with
    |s::_=>Mah (Yak f0) (Zai s l)
    |[]=>.dead
   |some f0,f=>Mah (Yak f0) f
   |none,f=>f
  let f:=bif Lba f then (match aliasOf jr k j acc 0 with|some i=>.alias i|none=>f) else f
  Yab nv jr old k n (j+1) (bif Kb9 f then acc else acc++[⟨k,j,f⟩])
def Gb5 (jr:List St)(k:Nat):Bool :=
 match jr with
 |s::rest=>rest.all fun s'=>Xar (s.get k) (s'.get k)&&(match s.get k with | some (.slot (some _) _)=>false | some (.slot _ (.tup _))=>false | some (.slot _ .dead)=>false | some _=>true | none=>false)
 |[]=>false
def Gb4 (jr:List St)(k:Nat):Bool :=
 match jr with
 |[s]=>Xar (s.get k) (s.get k)
 |_=>Gb5 jr k
def range (a:Nat):Nat->List Nat
 |0=>[]
 |n+1=>a::range (a+1) n
def Mae (E:Env)(nb:Nat)(live:Nat)(jr:List St):List Nat :=
 ((range E.ntmps E.ngh).filter fun t=>Gb4 jr (kT t)).map kT++((range 0 E.ntmps).filter fun t=>Xb6 live t&&Gb4 jr (kT t)).map kT++((range 0 nb).filter fun b=>Gb4 jr (kB b)).map kB
def Oax (nv:Nat)(jr:List St)(old:List Pos):List Nat->List Pos->List Pos
  |[],acc=>acc
  | k :: ks, acc => Oax nv jr old ks (match jr with
     |s::_=>Yab nv jr old k (Hbq (s.get k)) 0 acc
     |[]=>acc)
def Fbf (nv:Nat)(jr:List St)(old:List Pos)(ks:List Nat):List Pos:=Oax nv jr old ks []
def Gbd (c:aQ)(j:Nat)(l:aP):aQ :=
 match c with
 |.slot g (.one _)=>.slot g (match l with | .dead=>.dead | l=>.one l)
 |.slot g (.agg ls)=>.slot g (.agg (ls.set j l))
 |.box ro ls=>.box ro (ls.set j l)
 |c=>c
def kS (nv nr:Nat):List Pos->Nat->St->St
 |[],_,s=>s
 | p :: ps, i, s =>
  let put (l:aP) (s:St):St:=match s.get p.k with
   |some c=>s.put p.k (some (Gbd c p.j l))
   |none=>s
  match p.f with
  |.sc=>kS nv nr ps (i+1) (put (.sc (.v (nv+i))) s)
  |.ex m=>kS nv nr ps (i+1) ((put (.ex (nr+i)) s).put (kR (nr+i)) (some (.root (.v (nv+i)) m 0 .live)))
  |.sn=>kS nv nr ps (i+1) (put (.sn [] .no false (.v (nv+i))) s)
  |.nil z=>kS nv nr ps (i+1) (put (.sn [] .no true (.v (nv+i))) s)
  |.rp z=>kS nv nr ps (i+1) (put (.rp [] z (.v (nv+i))) s)
  |.pn=>kS nv nr ps (i+1) (put .pn s)
  |.alias a=>kS nv nr ps (i+1) (put (.ex (nr+a)) s)
  |_=>kS nv nr ps (i+1) (put .dead s)
def Db5 (s:St)(k j:Nat):List Nat :=
 match wU k j s with
 |.ex r=>[r]
 |.sn [(r,_)] .view _ _=>[r]
 |_=>[]
def Vbb:Form->Bool
 |.sn=>true
 |.rp _=>true
 |_=>false
def Vbc:Form->Bool
 |.ex _=>true
 |.alias _=>true
 |_=>false
def Oau (nv:Nat)(ct:List Pos)(jr:List St):List Nat->St->St
 |[],s=>s
 | r :: rs, s =>
  let taken:=ct.any fun p=>Vbc p.f&&jr.any fun s'=>has (Db5 s' p.k p.j) r
  let froz:=ct.any fun p=>Vbb p.f&&jr.any fun s'=>has (Caf (wU p.k p.j s')) r
  let sameX:=match jr with
   | s0 :: rest => match s0.get (kR r) with
    | some (.root x m v st) => aY nv x && !(Baw st .gone) && rest.all fun s' => match s'.get (kR r) with
     |some (.root x' _ _ ua)=>x.beq0 x'&&!(Baw ua .gone)
     |_=>false
    |_=>false
   |[]=>false
  let c:Option aQ :=
   bif taken then some (.root (.c .hole) 0 0 .gone)
   else bif Tar nv r jr&&!froz then (match jr with|s0::_=>s0.get (kR r)|[]=>none)
   else bif sameX then (match jr with|s0::_=>(match s0.get (kR r) with|some (.root x m v _)=>some (.root x m v .frozen)|c=>c)|[]=>none)
   else some (.root (.c .hole) 0 0 .gone)
  Oau nv ct jr rs (s.put (kR r) c)
def La6 (s:St):List Nat->Tr aQ->Tr aQ
 |[],t=>t
 |k::ks,t=>La6 s ks (t.set 16 k (s.get k))
def template (E:Env)(nv nb nr gf:Nat)(jr:List St)(keys:List Nat)(ct:List Pos):St :=
 match jr with
 |[]=>⟨.nil,nv,nb,nr,0⟩
 | s :: _ =>
  let s1:St:=⟨La6 s keys .nil,nv+ct.length,nb,gf+ct.length,s.nt⟩
  kS nv gf ct 0 (Oau nv ct jr (range 0 nr) s1)
def Sbv (j:Nat)(l:aP):aQ->Option aQ
 |.slot none (.one _)=>bif Nat.beq j 0 then some (.slot none (.one l)) else none
 |.slot none (.agg ls)=>some (.slot none (.agg (ls.set j l)))
 |.box ro ls=>some (.box ro (ls.set j l))
 |_=>none
def putAt (k j:Nat)(l:aP)(s:St):St :=
 match (s.get k).bind (Sbv j l) with
 |some c=>s.put k (some c)
 |none=>s
def Laz (E:Env)(p:Pos)(nr i:Nat)(s:St):Option (List Step×St×aI) :=
 let put (l:aP) (s:St):St:=putAt p.k p.j l s
 let rNew:=nr+i
 match p.f,wU p.k p.j s with
 |.sc,.sc x=>some ([],s,x)
 | .alias a, .ex r => match s.get (kR r) with
  |some (.root _ _ _ (.fwd r'))=>bif Nat.beq r' (nr+a) then some ([],put (.ex (nr+a)) s,.c .undef) else kK 5001
  |_=>kK 5002
 |.nil z,.sn [] .no true x=>some ([],s,x)
 | .ex m, .ex r => match s.get (kR r) with
  |some (.root x m' v .live)=>bif Nat.ble m m' then some ([],put (.ex rNew) (s.puts [(kR r,.root (.c .hole) 0 0 (.fwd rNew)),(kR rNew,.root x m 0 .live)]),x) else kK 5003
  |_=>kK 5004
 |.ex m,.sn [] _ true (.c (.rows z []))=>some ([],put (.ex rNew) (s.puts [(kR rNew,.root (.c (.rows z [])) m 0 .live)]),.c (.rows z []))
 | .ex m, .sn [(r, k)] .view _ x => match s.get (kR r) with
  |some (.root _ m' v .live)=>bif Nat.ble m m'&&Nat.beq v k then some ([],put (.ex rNew) (s.puts [(kR r,.root (.c .hole) 0 0 .gone),(kR rNew,.root x m 0 .live)]),x) else kK 5005
  |_=>kK 5006
 | .sn, l =>
  match ((do let s <- yH l;let fr <- dV (s.deps.map (·.1));RdM.ret (s.x,fr):RdM (aI×List (Nat×aQ)))).eval s.get with
  |some (x,fr)=>some ([],put (.sn [] .no false x) (s.puts fr),x)
  |none=>kK 5007
 |.rp z,.pn=>some ([],put (.rp [] z (.c (.rows z []))) s,.c (.rows z []))
 | .rp z, .rp deps z' x =>
  match ((do let d <- wJ deps;dV (d.map (·.1)):RdM (List (Nat×aQ)))).eval s.get with
  |some fr=>some ([],put (.rp [] z x) (s.puts fr),x)
  |none=>kK 5008
 | .rp z, .pe l z' i 0 =>
  match ((do let s <- yH l;let fr <- dV (s.deps.map (·.1));RdM.ret (s.x,fr):RdM (aI×List (Nat×aQ)))).eval s.get with
  |some (x,fr)=>some ([.prim (.one z') [x,i] 1],{ (put (.rp [] z (.v s.nv)) (s.puts fr)) with nv:=s.nv+1 },.v s.nv)
  |none=>kK 5009
 |.pn,.pn=>some ([],s,.c .undef)
 |.dead,_=>some ([],s,.c .undef)
 |_,_=>kK (4000000+1000*p.k+p.j)
def kD (E:Env)(nr:Nat):List Pos->Nat->St->Option (List Step×St×List aI)
 |[],_,s=>some ([],s,[])
 | p :: ps, i, s => do
  let (l,s,x) <- Laz E p nr i s
  let (l',s,xs) <- kD E nr ps (i+1) s
  some (l++l',s,x::xs)
def iC (τ:St):List Nat->St->Option St
 |[],s=>some s
 | r :: rs, s =>
  match τ.get (kR r),s.get (kR r) with
  |some (.root _ _ _ .frozen),some (.root x m v .live)=>iC τ rs (s.put (kR r) (some (.root x m v .frozen)))
  |_,_=>iC τ rs s
def Na0 (n:Nat)(xs:List aI):aI->aI
 |.v i=>bif Xbe i n then .v i else xs.getD (i-n) (.c .hole)
 |.c d=>.c d
def Tbl (n:Nat)(xs:List aI):Pth->Pth
 |.path p=>.path (p.map fun x=>(Na0 n xs x.1,x.2))
 |.suf sz lo=>.suf sz (Na0 n xs lo)
 |p=>p
def Tae (cJ ec r:Nat):Nat:=bif Nat.ble cJ r then ec+(r-cJ) else r
mutual
def aP.sub (n:Nat)(xs:List aI)(cJ ec:Nat):aP->aP
 |.sc x=>.sc (Na0 n xs x)
 |.su g x=>.su (Na0 n xs g.1,g.2) (Na0 n xs x)
 |.ex r=>.ex (Tae cJ ec r)
 |.sn d p e x=>.sn d (Tbl n xs p) e (Na0 n xs x)
 |.pe l s i o=>.pe (l.sub n xs cJ ec) s (Na0 n xs i) o
 |.rp d s x=>.rp d s (Na0 n xs x)
 |.clo f l=>.clo f (iD n xs cJ ec l)
 |l=>l
def iD (n:Nat)(xs:List aI)(cJ ec:Nat):List aP->List aP
 |[]=>[]
 |a::r=>a.sub n xs cJ ec::iD n xs cJ ec r
end
def yP (a b:aP):Bool :=
 match a with
 |.dead=>Na1 b
 | .sn d .no false x => match b with
  |.sn d' _ _ x'=>xL d d'&&x.beq0 x'
  |_=>false
 |a=>a.beq0 b
def eU:List aP->List aP->Bool
 |[],[]=>true
 |a::r,b::s=>yP a b&&eU r s
 |_,_=>false
def dB (n:Nat)(xs:List aI)(cJ ec:Nat):Option aQ->Option aQ->Bool
 |none,_=>true
 |some (.slot none .dead),_=>true
 |some (.slot none (.one a)),some (.slot none (.one b))=>yP (a.sub n xs cJ ec) b
 |some (.slot none (.agg a)),some (.slot none (.agg b))=>eU (iD n xs cJ ec a) b
 |some (.box r a),some (.box r' b)=>(r==r')&&eU (iD n xs cJ ec a) b
 |some (.root x m v .gone),_=>true
 |some (.root x m v st),some (.root x' m' v' ua)=>Baw st ua&&Nat.beq m m'&&Nat.beq v v'&&(Na0 n xs x).beq0 x'
 |_,_=>false
def Car (n:Nat)(xs:List aI)(cJ ec:Nat)(τ s:St):List Nat->Bool
 |[]=>true
 |k::ks=>dB n xs cJ ec (τ.get k) (s.get k)&&Car n xs cJ ec τ s ks
def Cat (n:Nat)(xs:List aI)(cJ ec:Nat)(τ s:St):List Nat->Bool
 |[]=>true
 |r::rs=>dB n xs cJ ec (τ.get (kR r)) (s.get (kR (Tae cJ ec r)))&&Cat n xs cJ ec τ s rs
def oI (E:Env)(n:Nat)(xs:List aI)(eM cJ ec len:Nat)(τ s:St):Bool :=
 Car n xs cJ ec τ s ((range 0 (E.ntmps+E.ngh)).map kT++(range 0 τ.nb).map kB)&&Cat n xs cJ ec τ s (range 0 eM++range cJ len)
def lV (b c k:Nat):Nat:=bif Nat.beq k b then c else bif Nat.beq k c then b else k
mutual
def aP.swap (b c:Nat):aP->aP
 |.px k o=>.px (lV b c k) o
 |.pe l s i o=>.pe (l.swap b c) s i o
 |.clo f l=>.clo f (cZ b c l)
 |l=>l
def cZ (b c:Nat):List aP->List aP
 |[]=>[]
 |a::r=>a.swap b c::cZ b c r
end
def Xaj (b c:Nat):SV->SV
 |.dead=>.dead
 |.one l=>.one (l.swap b c)
 |.agg ls=>.agg (cZ b c ls)
 |.tup ts=>.tup (ts.map fun t=>(t.1,cZ b c t.2))
def pE (b c:Nat):aQ->aQ
 |.slot g v=>.slot g (Xaj b c v)
 |.box ro ls=>.box ro (cZ b c ls)
 |.root x m v st=>.root x m v st
def nC (b c k:Nat):Nat:=bif Nat.beq (k % 3) 1 then kB (lV b c (k / 3)) else k
def Oao (f:Nat->Option aQ):List Nat->Tr aQ->Tr aQ
 |[],t=>t
 |k::ks,t=>Oao f ks (t.set 16 k (f k))
def St.swap (s:St)(b c:Nat):St:={ s with tr:=Oao (fun k=>(s.get (nC b c k)).map (pE b c)) ((range 0 s.nt).map kT++(range 0 s.nb).map kB++(range 0 s.nr).map kR) s.tr }
def Rav (E:Env)(τ:St):List Nat->St->St
 |[],s=>s
 | t :: ts, s => Rav E τ ts (match τ.get (kT t), s.get (kT t) with
  | some (.slot none (.one (.px b 0))), some (.slot none (.one (.px c 0))) =>
   bif !(Nat.beq b c)&&Nat.ble E.nbx b&&Nat.ble E.nbx c&&Xbe b s.nb&&Xbe c s.nb then s.swap b c else s
  |_,_=>s)
def Ial (E:Env)(n eM cJ:Nat)(ct:List Pos)(τ:St)(kind:Kind)(s:St):Option (Tm St):=do
 let (ls,s1,xs) <- kD E s.nr ct 0 { s with nr:=s.nr+ct.length }
 let s2 <- iC τ (range 0 eM) s1
 bif oI E n xs eM cJ s.nr ct.length τ s2&&oL s.tr s.nr ct.length&&Nat.ble eM s.nr&&fD s.nv ls&&xs.all (aY (s.nv+bM ls)) then some (pR none (.leaf kind xs s2) ls) else kK 1
def coerce (E:Env)(n eM cJ:Nat)(ct:List Pos)(τ:St)(kind:Kind)(s:St):Option (Tm St):=Ial E n eM cJ ct τ kind (Rav E τ E.pxs s)
def Tm.no {β:Type}(f:Kind->Bool):Tm β->Bool
 |.leaf k _ _=>!(f k)
 |.stuck=>true
 |.lt _ _ _ _ k=>k.no f
 |.call _ _ _ _ _ k=>k.no f
 |.ite _ t e=>t.no f&&e.no f
 |.bind _ t k=>t.no f&&k.no f
 |.loop _ b=>b.no f
def qN:Kind->Bool
 |.fall=>true
 |_=>false
def Qaf (id:Nat):Kind->Bool
 |.fall=>true
 |.exit j=>Nat.beq id j
 |_=>false
def qE (id:Nat):Kind->Bool
 |.exit j=>Nat.beq id j
 |_=>false
def Mak (i:Nat):Kind->Bool
 |.yield j=>Nat.beq i j
 |_=>false
def Ta7:Kind->Bool
 |.cont=>true
 |_=>false
def Tm.falls:Tm St->List St
 |.leaf .fall _ s=>[s]
 |.leaf _ _ _=>[]
 |.stuck=>[]
 |.lt _ _ _ _ k=>k.falls
 |.call _ _ _ _ _ k=>k.falls
 |.ite _ t e=>t.falls++e.falls
 |.bind _ _ k=>k.falls
 |.loop _ _=>[]
def Tm.exits (id:Nat):Tm St->List St
 |.leaf (.exit j) _ s=>bif Nat.beq j id then [s] else []
 |.leaf _ _ _=>[]
 |.stuck=>[]
 |.lt _ _ _ _ k=>k.exits id
 |.call _ _ _ _ _ k=>k.exits id
 |.ite _ t e=>t.exits id++e.exits id
 |.bind _ t k=>t.exits id++k.exits id
 |.loop _ b=>b.exits id
def Tm.tailExits (id:Nat):Tm St->List St
 |.leaf (.exit j) _ s=>bif Nat.beq j id then [s] else []
 |.leaf _ _ _=>[]
 |.stuck=>[]
 |.lt _ _ _ _ k=>k.tailExits id
 |.call _ _ _ _ _ k=>k.tailExits id
 |.ite _ t e=>t.tailExits id++e.tailExits id
 |.bind _ t k=>k.tailExits id
 |.loop _ b=>[]
def Tm.graft (f:St->Option (Tm St)):Tm St->Option (Tm St)
 |.leaf .fall _ s=>f s
 |.leaf k xs s=>some (.leaf k xs s)
 |.stuck=>some .stuck
 |.lt g p xs n k=>(k.graft f).map fun k=>.lt g p xs n k
 |.call g c xs n o k=>(k.graft f).map fun k=>.call g c xs n o k
 |.ite c t e=>(t.graft f).bind fun t=>(e.graft f).map fun e=>.ite c t e
 |.bind i t k=>bif t.no qN then (k.graft f).map fun k=>.bind i t k else none
 |.loop i b=>bif b.no qN then some (.loop i b) else none
def Tm.exitFall (id:Nat):Tm St->Option (Tm St)
 |.leaf (.exit j) xs s=>some (bif Nat.beq id j then .leaf .fall [] s else .leaf (.exit j) xs s)
 |.leaf k xs s=>some (.leaf k xs s)
 |.stuck=>some .stuck
 |.lt g p xs n k=>(k.exitFall id).map fun k=>.lt g p xs n k
 |.call g c xs n o k=>(k.exitFall id).map fun k=>.call g c xs n o k
 |.ite c t e=>(t.exitFall id).bind fun t=>(e.exitFall id).map fun e=>.ite c t e
 |.bind i t k=>bif t.no (qE id) then (k.exitFall id).map fun k=>.bind i t k else none
 |.loop i b=>bif b.no (qE id) then some (.loop i b) else none
def Tm.turn (out:Kind)(jw:Kind->Bool)(f:St->Option (Tm St)):Tm St->Option (Tm St)
 |.leaf k xs s=>bif jw k then f s else some (.leaf k xs s)
 |.stuck=>some .stuck
 |.lt g p xs n k=>(k.turn out jw f).map fun k=>.lt g p xs n k
 |.call g c xs n o k=>(k.turn out jw f).map fun k=>.call g c xs n o k
 |.ite c t e=>(t.turn out jw f).bind fun t=>(e.turn out jw f).map fun e=>.ite c t e
 | .bind i t k =>
  bif Mak i out then (bif t.no jw then (k.turn out jw f).map fun k=>.bind i t k else none)
  else (t.turn out jw f).bind fun t=>(k.turn out jw f).map fun k=>.bind i t k
 |.loop i b=>bif Ta7 out then (bif b.no jw then some (.loop i b) else none) else (b.turn out jw f).map fun b=>.loop i b
def Kb3 (l:List St)(n:Nat):Nat:=l.foldl (fun m s=>max m s.nr) n
def Pa1 (τ:St)(eM:Nat):List (Nat×Nat)->Bool
 |[]=>true
 | (r, k) :: d => Xbe r eM && (match τ.get (kR r) with
  |some (.root _ _ _ .gone)=>true
  |some (.root _ _ _ (.fwd _))=>true
  |some (.root _ _ v _)=>Nat.ble k v
  |_=>false)&&Pa1 τ eM d
mutual
def aP.wf (τ:St)(eM:Nat):aP->Bool
 |.ex r=>(τ.get (kR r)).isSome
 |.sn d _ _ _=>Pa1 τ eM d
 |.px b _=>(τ.get (kB b)).isSome
 |.pe l _ _ _=>l.wf τ eM
 |.rp d _ _=>Pa1 τ eM d
 |.clo _ l=>oQ τ eM l
 |_=>true
def oQ (τ:St)(eM:Nat):List aP->Bool
 |[]=>true
 |a::r=>a.wf τ eM&&oQ τ eM r
end
def tK (τ:St)(eM k:Nat):Option aQ->Bool
 |none=>true
 | some c => dA τ.nv c && (match c with
  |.slot none .dead=>Nat.beq (k % 3) 0
  |.slot none (.one l)=>Nat.beq (k % 3) 0&&l.wf τ eM
  |.slot none (.agg ls)=>Nat.beq (k % 3) 0&&oQ τ eM ls
  |.box _ ls=>Nat.beq (k % 3) 1&&oQ τ eM ls
  |.root _ _ _ (.fwd _)=>false
  |.root _ _ _ _=>Nat.beq (k % 3) 2
  |_=>false)
def Gaj (τ:St)(eM:Nat):List Nat->Bool
 |[]=>true
 |k::ks=>tK τ eM k (τ.get k)&&Gaj τ eM ks
def Ta0 (τ:St):List Nat->Bool
 |[]=>true
 |k::ks=>(τ.get k).isNone&&Ta0 τ ks
def Eam (E:Env)(s0:St)(cJ len:Nat)(τ:St):Bool :=
 Nat.beq τ.nv (s0.nv+len)&&Nat.ble E.ntmps τ.nt&&Nat.ble τ.nt (E.ntmps+E.ngh)&&Nat.beq τ.nr (cJ+len)&&Nat.ble s0.nr cJ &&
 Ta0 τ ((range s0.nr (cJ-s0.nr)).map kR)&&Gaj τ s0.nr ((range 0 τ.nt).map kT++(range 0 τ.nb).map kB++((range 0 s0.nr++range cJ len).map kR))
def join (E:Env)(live:Nat)(s0:St)(i:Nat)(jw:Kind->Bool)(ends:List St)(t:Tm St):Option (Tm St×St) :=
 let keys:=Mae E s0.nb live ends
 let ct:=Fbf s0.nv ends [] keys
 let gf:=Kb3 ends s0.nr
 let τ:=template E s0.nv s0.nb s0.nr gf ends keys ct
 bif Eam E s0 gf ct.length τ then (t.turn (.yield i) jw (coerce E s0.nv s0.nr gf ct τ (.yield i))).map fun t=>(t,τ) else kK 6
def Ras (a b:List Pos):Bool :=
 match a,b with
 |[],[]=>true
 | p :: ps, q :: qs => Nat.beq p.k q.k && Nat.beq p.j q.j && (match p.f, q.f with
  |.sc,.sc=>true
  |.nil _,.nil _=>true
  |.ex m,.ex m'=>Nat.beq m m'
  |.sn,.sn=>true
  |.pn,.pn=>true
  |.rp _,.rp _=>true
  |.dead,.dead=>true
  |.alias i,.alias j=>Nat.beq i j
  |_,_=>false)&&Ras ps qs
 |_,_=>false
def Oaf (τ:St)(ends:List St):List Nat->Bool
 |[]=>true
 | r :: rs => (match τ.get (kR r) with
  | some (.root _ m v st) => Baw st .gone || ends.all fun s => match s.get (kR r) with
   |some (.root _ m' v' ua)=>(Nat.beq m m'&&Nat.beq v v'&&Baw st ua)||(Baw st .frozen&&Baw ua .live)
   |_=>false
  |_=>true)&&Oaf τ ends rs
def Hak (E:Env)(live:Nat)(s:St)(body:St->Option (Tm St)):Nat->List Pos->List Nat->Nat->List St->Option (Tm St)
 |0,_,_,_,_=>kK 3
 | fuel + 1, ct, keys, gf, seen =>
  let τ:=template E s.nv s.nb s.nr gf (s::seen) keys ct
  match body τ with
  |none=>none
  | some tb =>
   let ends:=tb.falls.map (Rav E s E.pxs)
   let keys':=Mae E s.nb live (s::ends)
   let plan':=Fbf s.nv (s::ends) ct keys'
   bif Ras ct plan'&&Nat.beq keys.length keys'.length&&Oaf τ ends (range 0 s.nr) then do
    let (pre,s1,xs) <- kD E s.nr ct 0 { s with nr:=s.nr+ct.length }
    let s2 <- iC τ (range 0 s.nr) s1
    bif oI E s.nv xs s.nr gf s.nr ct.length τ s2&&oL s.tr s.nr ct.length&&pre.isEmpty&&Eam E s gf ct.length τ then do
     let tb <- tb.turn .cont qN (coerce E s.nv s.nr gf ct τ .cont)
     some (.loop xs tb)
    else kK 2
   else Hak E live s body fuel plan' keys' (Kb3 ends gf) ends
def Za3:Operand->Option Bool
 |.const (.bool b)=>some b
 |_=>none
def Pam:Code->Nat
 |.region r _ _=>r
 |.seq a _=>Pam a
 |.cond _ a _=>Pam a
 |.block _ b=>Pam b
 |.loop b=>Pam b
 |_=>0
def hintOf:List (Nat×List (Nat×Nat×Nat×Nat)×List Nat×Nat×List Nat)->Nat->Option (List (Nat×Nat×Nat×Nat)×List Nat×Nat×List Nat)
 |[],_=>none
 |(k,h)::r,n=>bif Nat.beq k n then some h else hintOf r n
def Lbd (c z:Nat):Form :=
 match c with
 |0=>.sc
 |1=>.nil z
 |2=>.ex z
 |3=>.sn
 |4=>.pn
 |5=>.rp z
 |6=>.alias z
 |_=>.dead
def Fba (s:St):List Nat->St->St
 |[],t=>t
 | d :: ds, t => Fba s ds (t.put (kR (d / 3)) (match d % 3 with
  |0=>some (.root (.c .hole) 0 0 .gone)
  |1=>s.get (kR (d / 3))
  | _ => match s.get (kR (d / 3)) with
   |some (.root x m v _)=>some (.root x m v .frozen)
   |c=>c))
def Mab (E:Env)(s:St)(body:St->Option (Tm St))(h:List (Nat×Nat×Nat×Nat)×List Nat×Nat×List Nat):Option (Tm St) :=
 let ct:List Pos:=h.1.map fun p=>⟨p.1,p.2.1,Lbd p.2.2.1 p.2.2.2⟩
 let gf:=s.nr+h.2.2.1
 let τ:=kS s.nv gf ct 0 (Fba s h.2.2.2 ⟨La6 s h.2.1 .nil,s.nv+ct.length,s.nb,gf+ct.length,s.nt⟩)
 match body τ with
 |none=>none
 | some tb => do
  let (pre,s1,xs) <- kD E s.nr ct 0 { s with nr:=s.nr+ct.length }
  let s2 <- iC τ (range 0 s.nr) s1
  bif oI E s.nv xs s.nr gf s.nr ct.length τ s2&&oL s.tr s.nr ct.length&&pre.isEmpty&&Eam E s gf ct.length τ then do
   let tb <- tb.turn .cont qN (coerce E s.nv s.nr gf ct τ .cont)
   some (.loop xs tb)
  else kK 2
def sxC (E:Env)(po:Bool)(rb:Nat):Code->List (Nat×Nat)->Nat->St->Option (Tm St)
 |.skip,_,_,s=>some (.leaf .fall [] s)
 |.label _,_,_,s=>some (.leaf .fall [] s)
 |.ret,_,_,s=>some (.leaf .ret [] s)
 |.exit id,_,_,s=>some (.leaf (.exit id) [] s)
 |.region kq ops draw,_,_,s=>some (Laj E po kq ops.toList draw s)
 | .seq a b, ex, live, s => do
  let mid:=Jah b ex rb live
  let t <- sxC E po rb a ex mid s
  bif t.no qN then some t else
  match t.falls with
  |[_]=>t.graft (sxC E po rb b ex live)
  | ends => do
   let (t,τ) <- join E mid s 0 qN ends t
   let k <- sxC E po rb b ex live τ
   some (.bind 0 t k)
 | .cond c a b, ex, live, s =>
  match Za3 c with
  |some true=>sxC E po rb a ex live s
  |some false=>sxC E po rb b ex live s
  |none =>
  match s.get (match c with|.tmp t=>kT t|_=>0),c with
  | some (.slot none (.one (.sc x))), .tmp t => bif !(aY s.nv x && Xbe t E.ntmps) then some .stuck else do
   let t <- sxC E po rb a ex live s
   let e <- sxC E po rb b ex live s
   some (.ite x t e)
  |_,_=>some .stuck
 | .block id b, ex, live, s => do
  let t <- sxC E po rb b ((id,live)::ex) live s
  bif t.no (qE id) then some t else
  match t.falls,t.exits id,t.tailExits id with
  |[],[_],[_]=>t.exitFall id
  | fs, es, _ => do
   let (t,τ) <- join E live s (id+1) (Qaf id) (fs++es) t
   some (.bind (id+1) t (.leaf .fall [] τ))
 | .loop b, ex, _, s =>
  let live':=Jah (.loop b) ex rb 0
  match hintOf E.hints (Pam b) with
  |some h=>Mab E s (sxC E po rb b ex live') h
  |none=>Hak E live' s (sxC E po rb b ex live') 9 [] (Mae E s.nb live' [s]) s.nr []
 |.scope _,_,_,_=>some .stuck
 |.goto _,_,_,_=>some .stuck
 |.rangeFunc _ _ _ _,_,_,_=>some .stuck
 |.refuse _,_,_,_=>some .stuck
def iT (i nr:Nat):LS->aP×List (Nat×aQ)×Nat×Nat
 |.sc=>(.sc (.v i),[],i+1,nr)
 |.fz nie=>(.sn [] .no nie (.v i),[],i+1,nr)
 |.mu m=>(.ex nr,[(kR nr,.root (.v i) m 0 .live)],i+1,nr+1)
 |.ow m=>(.ex nr,[(kR nr,.root (.v i) m 0 .live)],i+1,nr+1)
 |.px b=>(.px b 0,[],i,nr)
 |.clo f cs=>(.clo f (cs.map fun c=>match c with | .px b=>.px b 0 | _=>.dead),[],i,nr)
 |.rp z=>(.rp [] z (.v i),[],i+1,nr)
def eD (i nr:Nat):List LS->List aP×List (Nat×aQ)×Nat×Nat
 |[]=>([],[],i,nr)
 | s :: ss =>
  let (l,u,i,nr):=iT i nr s
  let (ls,us,i,nr):=eD i nr ss
  (l::ls,u++us,i,nr)
def jU (t i nr:Nat):List (Bool×List LS)->List (Nat×aQ)×Nat×Nat
 |[]=>([],i,nr)
 | (a, ss) :: ps =>
  let (ls,u,i,nr):=eD i nr ss
  let (us,i,nr):=jU (t+1) i nr ps
  ((kT t,.slot none (match Tad a ls with|some v=>v|none=>.dead))::u++us,i,nr)
def gX (i nr:Nat):BS->aP×List (Nat×aQ)×Nat×Nat
 |.sc=>(.sc (.v i),[],i+1,nr)
 |.fz nie=>(.sn [] .no nie (.v i),[],i+1,nr)
 |.ow m=>(.ex nr,[(kR nr,.root (.v i) m 0 .live)],i+1,nr+1)
 |.ot=>(.dead,[],i,nr)
def gV (i nr:Nat):List (BS×BO)->List aP×List (Nat×aQ)×Nat×Nat
 |[]=>([],[],i,nr)
 | (s, _) :: ss =>
  let (l,u,i,nr):=gX i nr s
  let (ls,us,i,nr):=gV i nr ss
  (l::ls,u++us,i,nr)
def kY (b i nr:Nat):List (Bool×List (BS×BO))->List (Nat×aQ)×Nat×Nat
 |[]=>([],i,nr)
 | (ro, cs) :: bs =>
  let (ls,u,i,nr):=gV i nr cs
  let (us,i,nr):=kY (b+1) i nr bs
  ((kB b,.box ro ls)::u++us,i,nr)
def fE (r:Nat):List LS->List Nat
 |[]=>[]
 |.mu _::ss=>r::fE (r+1) ss
 |.ow _::ss=>fE (r+1) ss
 |_::ss=>fE r ss
def tH (t:Nat):List aP->List (Nat×aQ)
 |[]=>[]
 |l::ls=>(kT t,.slot none (.one l))::tH (t+1) ls
def Pai (s:Sig):List aP:=(fE 0 (s.params.flatMap (·.2))).map aP.ex++(range 0 s.boxes.length).map fun b=>aP.px b 0
def oH (s:Sig):Nat:=(Pai s).length
def entry (s:Sig)(ntmps:Nat):St :=
 let (u,i,nr):=jU 0 0 0 s.params
 let (v,i,nr):=kY 0 i nr s.boxes
 (St.puts ⟨.nil,i,s.boxes.length,nr,ntmps+oH s⟩ (u++v++tH ntmps (Pai s)))
structure Fin where
 xs:List aI
 own:List (Nat×Nat×Nat)
 q:Nat
 frz:List Nat
 lets:List Step
 bxs:List Nat
def Aac (F:Fin)(r m:Nat)(x:aI):Fin:={ F with xs:=F.xs++[x],own:=F.own++[(r,2*F.q,m)],q:=F.q+1 }
def Uaf (F:Fin)(z:Nat):Fin:={ F with xs:=F.xs++[.c (.rows z [])],q:=F.q+1 }
def Pap (F:Fin)(m:Nat):aP->RdM Fin
 |.sn [] _ true (.c (.rows z []))=>.ret (Uaf F z)
 | .ex r => do
  match <- rdK (kR r) with
  | some (.root x m' v .live) => do
   bQ (Nat.ble m m')
   .ret (Aac F r m x)
  |_=>.no
 | .sn [(r, k)] .view _ x => do
  match <- rdK (kR r) with
  | some (.root _ m' v .live) => do
   bQ (Nat.ble m m'&&Nat.beq v k)
   .ret (Aac F r m x)
  |_=>.no
 |_=>.no
def Par (F:Fin)(l:aP):RdM Fin:=do
 let s <- yH l
 .ret { F with xs:=F.xs++[s.x],frz:=F.frz++s.deps.map (·.1) }
def Ha8 (nv:Nat)(F:Fin):LR->aP->RdM Fin
 |.sc,.sc x=>.ret { F with xs:=F.xs++[x] }
 |.fz,l=>Par F l
 |.ow m,l=>Pap F m l
 |.rp z,.pn=>.ret { F with xs:=F.xs++[.c (.rows z [])] }
 | .rp z, .rp deps z' x => do
  let d <- wJ deps
  .ret { F with xs:=F.xs++[x],frz:=F.frz++d.map (·.1) }
 | .rp z, .pe l z' i 0 => do
  let s <- yH l
  .ret { F with xs:=F.xs++[.v (nv+bM F.lets)],frz:=F.frz++s.deps.map (·.1),lets:=F.lets++[.prim (.one z') [s.x,i] 1] }
 |_,_=>.no
def Da5 (F:Fin):BO->aP->RdM Fin
 |.sc,.sc x=>.ret { F with xs:=F.xs++[x] }
 |.fz,l=>Par F l
 |.ow m,l=>Pap F m l
 |.dead,l=>bif Na1 l then .ret { F with xs:=F.xs++[.c .hole] } else .no
 |_,_=>.no
def jL:Fin->List BO->List aP->RdM Fin
 |F,[],[]=>.ret F
 | F, s :: ss, l :: ls => do
  let F <- Da5 F s l
  jL F ss ls
 |_,_,_=>.no
def iG (nv:Nat):Fin->List LR->List aP->RdM Fin
 |F,[],[]=>.ret F
 | F, s :: ss, l :: ls => do
  let F <- (match s,l with
   | .bx cs, .px b 0 => do
    match <- rdK (kB b) with
    |some (.box false bs)=>jL { F with bxs:=F.bxs++[b] } cs bs
    |_=>.no
   |s,l=>Ha8 nv F s l)
  iG nv F ss ls
 |_,_,_=>.no
def qI (E:Env)(nv:Nat):Fin->List (Bool×List LR)->List ResultVar->RdM Fin
 |F,[],[]=>.ret F
 | F, (a, ss) :: rs, .tmp t :: vs => do
  match <- rdK (kT t) with
  | some (.slot none v) => do
   bQ (Xbe t E.ntmps)
   let ls <- oP (kE a v)
   let F <- iG nv F ss ls
   qI E nv F rs vs
  |_=>.no
 | F, (a, ss) :: rs, .cell t ty :: vs => do
  let ti <- oP (E.ti ty)
  bQ ((a==ti.agg)&&Nat.beq ss.length ti.size&&(ti.agg||Nat.beq ti.size 1)&&Xbe t E.ntmps)
  match <- rdK (kT t) with
  | some (.slot none (.one (.px b off))) => do
   match <- rdK (kB b) with
   | some (.box _ ls) => do
    let F <- iG nv F ss ((ls.drop off).take ti.size)
    qI E nv F rs vs
   |_=>.no
  |_=>.no
 |_,_,_=>.no
def eO:List LS->List Nat
 |[]=>[]
 |.mu m::ss=>m::eO ss
 |_::ss=>eO ss
def Fab (t:Nat):Nat->List Nat->Fin->RdM Fin
 |_,[],F=>.ret F
 | j, d :: ds, F => do
  match <- rdK (kT (t+j)) with
  | some (.slot none (.one (.ex r))) => do
   match <- rdK (kR r) with
   | some (.root x m _ .live) => do
    bQ (Nat.ble d m)
    Fab t (j+1) ds { F with xs:=F.xs++[x],own:=F.own++[(r,2*j+1,d)] }
   |_=>.no
  |_=>.no
def rH (t:Nat):Fin->Nat->List (Bool×List (BS×BO))->RdM Fin
 |F,_,[]=>.ret F
 | F, b, (ro, cs) :: r => do
  bif ro then rH t F (b+1) r else
  match <- rdK (kT (t+b)) with
  | some (.slot none (.one (.px b' 0))) => do
   bQ (Nat.beq b' b)
   match <- rdK (kB b) with
   | some (.box false ls) => do
    let F <- jL F (cs.map (·.2)) ls
    rH t F (b+1) r
   |_=>.no
  |_=>.no
def Fbl (E:Env)(s:Sig)(results:List ResultVar)(nv:Nat):RdM Fin:=do
 let F <- qI E nv ⟨[],[],0,[],[],[]⟩ s.results results
 let ms:=eO (s.params.flatMap (·.2))
 let F <- Fab E.ntmps 0 ms F
 rH (E.ntmps+ms.length) F 0 s.boxes
def finish (E:Env)(s:Sig)(results:List ResultVar)(st:St):Option (Tm St) :=
 match (Fbl E s results st.nv).eval st.get with
 | some F =>
  bif distinct (F.own.map (·.1))&&!(meets (F.own.map (·.1)) F.frz)&&!(F.bxs.any fun b=>Xbe b s.boxes.length)&&fD st.nv F.lets then
   some (pR none (.leaf .ret F.xs st) F.lets) else none
 |none=>none
def Eb8 (E:Env)(po:Bool)(s:Sig)(body:Code)(live:Nat):Option (Tm St) :=
 let e:=entry s E.ntmps
 bif Gaj e e.nr ((range 0 e.nt).map kT++(range 0 e.nb).map kB++(range 0 e.nr).map kR) then sxC E po live body [] live e else kK 7
def Gbr (l:List ResultVar):Nat:=l.foldl (fun m r=>match r with|.tmp t=>m ||| 2 ^ t|.cell t _=>m ||| 2 ^ t) 0
def Pbv:Kind->Bool
 |.ret=>true
 |.fall=>true
 |_=>false
def Ua7 (E:Env)(s:Sig)(fn:Func):Option (Tm Unit) :=
 match fn.body with
 |none=>none
 | some c => bif !(Nat.ble s.params.length fn.ntmps) then none else do
  let E:={ E with ntmps:=fn.ntmps,ngh:=oH s,nbx:=s.boxes.length }
  let t <- Eb8 E false s c (Gbr fn.results.toList)
  let t <- t.turn .ret Pbv fun st=>(match finish E s fn.results.toList st with|some t=>some t|none=>some .stuck)
  some t.strip
inductive Sc:Value->D->Prop
 |int (k:IntKind) (n:Int):Sc (.int k n) (.int k n)
 |bool (b:Bool):Sc (.bool b) (.bool b)
 |str (l:List UInt8):Sc (.string ⟨l.toArray⟩) (.str l)
inductive Rd (ok:Nat->Prop) (w:World):Value->D->Prop
 |sc {v:Value} {d:D} (h:Sc v d):Rd ok w v d
 |hole (v:Value) (h1:v.oneCell'=true):Rd ok w v .hole
 | rows (A : Option Addr) (a : Addr) (n c sz : Nat) (rs : List (List D)) (vs : Nat -> Nat -> Value)
   (hn:rs.length=n) (hc:n<=c) (hA:n=0\/A=some a) (dh:∀ r∈rs,r.length=sz)
   (cE:∀ i r,rs[i]?=some r->∀ j d,r[j]?=some d->ok a.block/\w.cell? (a.add (i*sz+j))=some (vs i j))
   (cR:∀ i r,rs[i]?=some r->∀ j d,r[j]?=some d->Rd ok w (vs i j) d) :
   Rd ok w (.slice A n c) (.rows sz rs)
inductive Ow where
 |frz
 |slc (r:Nat) (p:List Nat)
 |box (b:Nat)
 |oth
 deriving DecidableEq
def fzq (w:World)(a:Addr):Bool :=
 match w.heap[a.block]? with
 |some (.cells _ _ (lo,hi))=>decide (lo<hi)
 |_=>false
theorem xG {w:World}{a:Addr}(h:fzq w a=false){b:Addr}(hb:b.block=a.block):w.frozen? b=false:=by
 unfold fzq at h;unfold World.frozen?;rw[hb];split at h
 ·rename_i lo hi he
  rw[he];have:=of_decide_eq_false h;simp only[Bool.and_eq_false_iff,decide_eq_false_iff_not];omega
 ·rename_i cU
  split
  ·rename_i lo hi he
   exact absurd he (cU _ _ _ _)
  ·rfl
inductive Rp (own:Nat->Ow) (w:World) (r:Nat):List Nat->Nat->Value->D->Prop
 |sc {p:List Nat} {m:Nat} {v:Value} {d:D} (h:Sc v d):Rp own w r p m v d
 |hole {p:List Nat} {m:Nat} (v:Value) (h1:v.oneCell'=true):Rp own w r p m v .hole
 |fz {p:List Nat} {v:Value} {d:D} (h:Rd (fun b=>own b=.frz) w v d):Rp own w r p 0 v d
 | sl {p : List Nat} {m : Nat} (A : Option Addr) (a : Addr) (n c sz : Nat) (rs : List (List D)) (vs : Nat -> Nat -> Value)
   (hn:rs.length=n) (hc:n<=c) (hA:A=some a\/(A=none/\c=0)) (dh:∀ r∈rs,r.length=sz)
   (cu:A=some a->a.spot=none/\own a.block=.slc r p/\∀ k,k<c*sz->∃ u,w.cell? (a.add k)=some u/\fzq w (a.add k)=false)
   (cE:∀ i row,rs[i]?=some row->∀ j d,row[j]?=some d->w.cell? (a.add (i*sz+j))=some (vs i j))
   (cR:∀ i row,rs[i]?=some row->∀ j d,row[j]?=some d->Rp own w r (p++[i*sz+j]) m (vs i j) d) :
   Rp own w r p (m+1) (.slice A n c) (.rows sz rs)
def zO (own:Nat->Ow)(w:World)(r:Nat):List Nat->Value->List Nat->Value->Prop
 |_,v,[],u=>u=v
 |q,v,k::p,u=>∃ a n c u',v=.slice (some a) n c/\own a.block=.slc r q/\w.cell? (a.add k)=some u'/\zO own w r (q++[k]) u' p u
theorem gQ {w w':World}{a:Addr}(h:w'.heap[a.block]?=w.heap[a.block]?):w'.cell? a=w.cell? a:=by
 unfold World.cell?;rw[h]
theorem Hav {w w':World}{a:Addr}(h:w'.heap[a.block]?=w.heap[a.block]?):w'.frozen? a=w.frozen? a:=by
 unfold World.frozen?;rw[h]
theorem Cam {w w':World}{a:Addr}(h:w'.heap[a.block]?=w.heap[a.block]?):fzq w' a=fzq w a:=by
 unfold fzq;rw[h]
theorem add_block (a:Addr)(k:Nat):(a.add k).block=a.block:=by unfold Addr.add;split<;>rfl
theorem add_add (a:Addr)(j k:Nat):(a.add j).add k=a.add (j+k):=by
 unfold Addr.add;by_cases hj:j=0<;>by_cases hk:k=0<;>simp_all<;>omega
theorem Rd.mono {ok ok':Nat->Prop}{w w':World}{v:Value}{d:D}(h:Rd ok w v d)
  (hf:∀ b,ok b->ok' b/\w'.heap[b]?=w.heap[b]?):Rd ok' w' v d:=by
 induction h with
 |sc h=>exact .sc h
 |hole v h1=>exact .hole v h1
 | rows A a n c sz rs vs hn hc hA dh cE cR ih =>
  refine .rows A a n c sz rs vs hn hc hA dh (fun i r hi j d hj=>?_) (fun i r hi j d hj=>ih i r hi j d hj);obtain⟨h1,h2⟩:=cE i r hi j d hj;obtain⟨h3,h4⟩:=hf _ h1;exact⟨h3,(gQ (w:=w) (w':=w') (by rw[add_block];exact h4)).trans h2⟩
theorem Rp.mono {own own':Nat->Ow}{w w':World}{r r':Nat}{q q':List Nat}{p:List Nat}{m:Nat}{v:Value}{d:D}(h:Rp own w r p m v d)
  (hz:∀ b,own b=.frz->own' b=.frz/\w'.heap[b]?=w.heap[b]?) :
  ∀ s,p=q++s->(∀ b t,own b=.slc r (q++t)->own' b=.slc r' (q'++t)/\w'.heap[b]?=w.heap[b]?)->Rp own' w' r' (q'++s) m v d:=by
 induction h with
 |sc h=>exact fun _ _ _=>.sc h
 |hole v h1=>exact fun _ _ _=>.hole v h1
 |fz h=>exact fun _ _ _=>.fz (h.mono hz)
 | sl A a n c sz rs vs hn hc hA dh cu cE cR ih =>
  rename_i p m;intro s hp hs;refine .sl A a n c sz rs vs hn hc hA dh (fun e=>?_) (fun i row hi j d hj=>?_) (fun i row hi j d hj=>?_)
  ·obtain⟨h1,h2,h3⟩:=cu e
   rw[hp]at h2;obtain⟨h4,h5⟩:=hs _ _ h2;refine⟨h1,h4,fun k hk=>?_⟩;obtain⟨u,hu,hf⟩:=h3 k hk;exact⟨u,(gQ (w:=w) (w':=w') (by rw[add_block];exact h5)).trans hu,(Cam (w:=w) (w':=w') (by rw[add_block];exact h5)).trans hf⟩
  ·rcases hA with e|⟨e,e'⟩
   ·obtain⟨h1,h2,h3⟩:=cu e
    rw[hp]at h2;obtain⟨h4,h5⟩:=hs _ _ h2;exact (gQ (w:=w) (w':=w') (by rw[add_block];exact h5)).trans (cE i row hi j d hj)
   ·exfalso
    have:i<rs.length:=by
     rcases Wbc i rs.length with h|h
     ·exact h
     ·simp[Xbx h]at hi
    omega
  ·have:=ih i row hi j d hj (s++[i*sz+j]) (by rw[hp,Vbx]) hs
   rwa[<- Vbx]at this
theorem Rp.rd {own:Nat->Ow}{w:World}{r:Nat}{p:List Nat}{m:Nat}{v:Value}{d:D}(h:Rp own w r p m v d) :
  Rd (fun b=>own b=.frz\/∃ q,own b=.slc r q) w v d:=by
 induction h with
 |sc h=>exact .sc h
 |hole v h1=>exact .hole v h1
 |fz h=>exact h.mono fun b hb=>⟨.inl hb,rfl⟩
 | sl A a n c sz rs vs hn hc hA dh cu cE cR ih =>
  refine .rows A a n c sz rs vs hn hc ?_ dh (fun i row hi j d hj=>?_) ih
  ·rcases hA with e|⟨e,e'⟩
   ·exact .inr e
   ·exact .inl (by omega)
  ·refine⟨?_,cE i row hi j d hj⟩
   rcases hA with e|⟨e,e'⟩
   ·exact .inr ⟨_,(cu e).2.1⟩
   ·exfalso
    have:i<rs.length:=by
     rcases Wbc i rs.length with h|h
     ·exact h
     ·simp[Xbx h]at hi
    omega
theorem Rp.weaken {own own':Nat->Ow}{w:World}{r:Nat}{p:List Nat}{m:Nat}{v:Value}{d:D}(h:Rp own w r p m v d)
  (hz:∀ b,own b=.frz->own' b=.frz):∀ (m':Nat),m'<=m ->
  (∀ b t,own b=.slc r (p++t)->own' b=(if t.length<m' then .slc r (p++t) else .frz))->Rp own' w r p m' v d:=by
 induction h with
 |sc h=>exact fun _ _ _=>.sc h
 |hole v h1=>exact fun _ _ _=>.hole v h1
 | fz h =>
  intro m' hm hs;obtain rfl:m'=0:=by omega
  exact .fz (h.mono fun b hb=>⟨hz b hb,rfl⟩)
 | sl A a n c sz rs vs hn hc hA dh cu cE cR ih =>
  rename_i p m;intro m' hm hs
  cases m' with
  | zero =>
   refine .fz (.rows A a n c sz rs vs hn hc ?_ dh (fun i row hi j d hj=>?_) (fun i row hi j d hj=>?_))
   ·rcases hA with e|⟨e,e'⟩
    ·exact .inr e
    ·exact .inl (by omega)
   ·refine⟨?_,cE i row hi j d hj⟩
    rcases hA with e|⟨e,e'⟩
    ·have:=hs a.block [] (by simpa using (cu e).2.1)
     simpa using this
    ·exfalso
     have:i<rs.length:=by
      rcases Wbc i rs.length with h|h
      ·exact h
      ·simp[Xbx h]at hi
     omega
   ·have h1:=ih i row hi j d hj 0 (Nat.zero_le _) (fun b t hb=>by
     have:=hs b ([i*sz+j]++t) (by rw[<- Vbx];exact hb);simpa using this)
    generalize vs i j=u at h1
    cases h1 with
    |sc h=>exact .sc h
    |hole _ h1=>exact .hole _ h1
    |fz h=>exact h
  | succ m' =>
   refine .sl A a n c sz rs vs hn hc hA dh (fun e=>?_) cE (fun i row hi j d hj=>?_)
   ·obtain⟨h1,h2,h3⟩:=cu e
    refine⟨h1,?_,h3⟩;have:=hs a.block [] (by simpa using h2);simpa using this
   ·refine ih i row hi j d hj m' (by omega) (fun b t hb=>?_)
    have:=hs b ([i*sz+j]++t) (by rw[<- Vbx];exact hb);simp only[List.length_append,List.length_singleton]at this;rw[this,<- Vbx];by_cases ht:t.length<m'
    ·rw[if_pos ht,if_pos (by omega)]
    ·rw[if_neg ht,if_neg (by omega)]
theorem Sc.one {v:Value}{d:D}(h:Sc v d):v.oneCell'=true:=by cases h<;>rfl
theorem Rd.one {ok:Nat->Prop}{w:World}{v:Value}{d:D}(h:Rd ok w v d):v.oneCell'=true:=by
 cases h with
 |sc h=>exact h.one
 |hole _ h1=>exact h1
 |rows=>rfl
theorem Rp.one {own:Nat->Ow}{w:World}{r:Nat}{p:List Nat}{m:Nat}{v:Value}{d:D}(h:Rp own w r p m v d):v.oneCell'=true:=by
 cases h with
 |sc h=>exact h.one
 |hole _ h1=>exact h1
 |fz h=>exact h.one
 |sl=>rfl
structure Gh where
 own:Nat->Ow
 hdr:Nat->Value
 bx:Nat->Addr
def mU (σ:Nat->Option aQ)(r k:Nat):Prop:=∃ x m st,σ (kR r)=some (.root x m k st)/\(st=.live\/st=.frozen)
def zI (σ:Nat->Option aQ)(r k m:Nat):Prop:=∃ x,σ (kR r)=some (.root x m k .live)
def jK (σ:Nat->Option aQ)(r k:Nat):Prop:=∃ x m cy st,σ (kR r)=some (.root x m cy st)/\(st=.live\/st=.frozen->k<=cy)
def allow (G:Gh)(deps:List (Nat×Nat))(b:Nat):Prop:=G.own b=.frz\/∃ r k p,(r,k)∈deps/\G.own b=.slc r p
def lN (ρ:List D)(x:aI):Nat:=match x.val ρ with
 |.int _ n=>n.toNat
 |_=>0
def bB (ρ:List D)(p:List (aI×Nat×Nat)):List Nat:=p.map fun x=>lN ρ x.1*x.2.1+x.2.2
def Fbx (h v:Value)(sz L:Nat):Prop:=∃ A n c,h=.slice A n c/\L<=n/\v=.slice (if c=L then A else A.map (·.add (L*sz))) (n-L) (c-L)
def Dag (σ:Nat->Option aQ)(ρ:List D)(G:Gh)(w:World)(deps:List (Nat×Nat))(v:Value)(d:D):Pth->Prop
 |.no=>True
 |.view=>∀ r k m,deps=[(r,k)]->zI σ r k m->Rp G.own w r [] m v d
 |.suf sz lo=>∀ r k m,deps=[(r,k)]->zI σ r k m->Fbx (G.hdr r) v sz (lN ρ lo)
 |.path p=>∀ r k m,deps=[(r,k)]->zI σ r k m->p.length<=m/\Rp G.own w r (bB ρ p) (m-p.length) v d/\zO G.own w r [] (G.hdr r) (bB ρ p) v
mutual
def aB (σ:Nat->Option aQ)(ρ:List D)(G:Gh)(w:World):aP->Value->Prop
 |.dead,v=>v.oneCell'=true
 |.sc x,v=>Sc v (x.val ρ)
 |.su g x,v=>(Sc v (x.val ρ)\/(v=undef/\x.val ρ=.undef))/\(gOn ρ (some g)=true->Sc v (x.val ρ))
 |.ex r,v=>v=G.hdr r/\(σ (kR r)).isSome/\v.oneCell'=true
 | .sn deps p nie x, v => (v.oneCell' = true /\ ∀ z ∈ deps, jK σ z.1 z.2) /\ ((∀ z ∈ deps, mU σ z.1 z.2) ->
   Rd (allow G deps) w v (x.val ρ)/\(nie=true->∀ z,x.val ρ=.rows z []->v=.slice none 0 0)/\Dag σ ρ G w deps v (x.val ρ) p)
 |.px b off,v=>v=.pointer (some ((G.bx b).add off))/\(σ (kB b)).isSome
 |.pe l sz i off,v=>∃ a n c k iv,aB σ ρ G w l (.slice (some a) n c)/\i.val ρ=.int k iv/\0<=iv/\iv.toNat<n/\v=.pointer (some (a.add (iv.toNat*sz+off)))
 | .rp deps sz x, v => (v.oneCell' = true /\ ∀ z ∈ deps, jK σ z.1 z.2) /\ ((∀ z ∈ deps, mU σ z.1 z.2) ->
   (v=.pointer none/\∃ z,x.val ρ=.rows z []) \/
   ∃ a row,v=.pointer (some a)/\x.val ρ=.rows row.length [row]/\Rd (allow G deps) w (.slice (some a) 1 1) (.rows row.length [row]))
 |.pn,v=>v=.pointer none
 |.clo f fS,v=>∃ vs,v=.func (.func f) #[] vs.toArray/\aD σ ρ G w fS vs
def aD (σ:Nat->Option aQ)(ρ:List D)(G:Gh)(w:World):List aP->List Value->Prop
 |[],vs=>vs=[]
 |l::ls,vs=>∃ u us,vs=u::us/\aB σ ρ G w l u/\aD σ ρ G w ls us
end
def iM (σ:Nat->Option aQ)(ρ:List D)(G:Gh)(w:World):List (Bool×List aP)->List Value->Prop
 |[],us=>us=[]
 |(a,ls)::r,us=>∃ u dj vs,us=u::dj/\aD σ ρ G w ls vs/\(if a=true then u=.agg vs.toArray else vs=[u])/\iM σ ρ G w r dj
def dC (σ:Nat->Option aQ)(ρ:List D)(G:Gh)(w:World):SV->Value->Prop
 |.dead,_=>True
 |.one l,v=>aB σ ρ G w l v
 |.agg ls,v=>∃ vs,v=.agg vs.toArray/\aD σ ρ G w ls vs
 |.tup ts,v=>∃ us,v=.tuple us.toArray/\iM σ ρ G w ts us
def Aa6 (n:Nat)(a:Act)(gh:Nat->Value)(t:Nat):Value:=if t<n then a.tmps.getD t undef else gh (t-n)
def bW (σ:Nat->Option aQ)(ρ:List D)(G:Gh)(w:World)(r:Nat)(x:aI)(m:Nat):RSt->Prop
 |.live=>Rp G.own w r [] m (G.hdr r) (x.val ρ)
 |.frozen=>Rd (fun b=>G.own b=.frz) w (G.hdr r) (x.val ρ)/\∀ b p,G.own b≠.slc r p
 |.gone=>True
 |.fwd r'=>G.hdr r=G.hdr r'/\(σ (kR r')).isSome
def Lae (σ:Nat->Option aQ)(ρ:List D)(G:Gh)(w:World)(b:Nat)(ro:Bool)(ls:List aP):Prop :=
 (G.bx b).spot=none/\G.own (G.bx b).block=(if ro=true then .oth else .box b) /\
 ∀ j l,ls[j]?=some l->∃ v,w.cell? ((G.bx b).add j)=some v/\w.frozen? ((G.bx b).add j)=false/\aB σ ρ G w l v
structure bK where
 w0:World
 own0:Nat->Ow
 gh:Nat->Value
 rng:Nat->Nat×Nat
structure nH (F:bK) (G:Gh) (w:World):Prop where
 os:w.os=F.w0.os
 tape:w.tape=F.w0.tape
 output:w.output=F.w0.output
 size:F.w0.heap.size<=w.heap.size
 keep:∀ b,b<F.w0.heap.size->F.own0 b=.frz\/F.own0 b=.oth->w.heap[b]?=F.w0.heap[b]?/\G.own b=F.own0 b
 boxes:∀ b j,b<F.w0.heap.size->F.own0 b=.box j->G.own b=.box j/\∃ c0 c1 e fr,F.w0.heap[b]?=some (.cells c0 e fr)/\w.heap[b]?=some (.cells c1 e fr)/\c1.size=c0.size /\
  ∀ k,k<(F.rng j).1\/(F.rng j).2<=k->c1[k]?=c0[k]?
 fresh:∀ b,w.heap.size<=b->G.own b=.frz
def Ab3 (n:Nat)(gh:Nat->Value)(σ:Nat->Option aQ)(ρ:List D)(G:Gh)(a:Act)(w:World):Nat->aQ->Prop
 |k,.slot g v=>∃ t,k=kT t/\(gOn ρ g=true->dC σ ρ G w v (Aa6 n a gh t))
 |k,.box ro ls=>∃ b,k=kB b/\Lae σ ρ G w b ro ls
 |k,.root x m cy st=>∃ r,k=kR r/\(σ (kR r)).isSome/\bW σ ρ G w r x m st
structure R (n:Nat) (F:bK) (σ:Nat->Option aQ) (ρ:List D) (a:Act) (w:World) (G:Gh):Prop where
 tmps:a.tmps.size=n
 defers:a.defers=[]
 cont:∀ k c,σ k=some c->Ab3 n F.gh σ ρ G a w k c
 frame:nH F G w
 rng:∀ b ls,σ (kB b)=some (.box false ls)->(G.bx b).block<F.w0.heap.size->F.own0 (G.bx b).block=.box b->F.rng b=((G.bx b).off,(G.bx b).off+ls.length)
theorem Kb6 {a b:Nat}(h:kT a=kT b):a=b:=by unfold kT at h;omega
theorem Caj {a b:Nat}(h:kB a=kB b):a=b:=by unfold kB at h;omega
theorem fJ {a b:Nat}(h:kR a=kR b):a=b:=by unfold kR at h;omega
theorem mK {a b:Nat}:kT a≠kB b:=by unfold kT kB;omega
theorem iQ {a b:Nat}:kT a≠kR b:=by unfold kT kR;omega
theorem fO {a b:Nat}:kB a≠kR b:=by unfold kB kR;omega
section
variable {n:Nat} {F:bK} {σ:Nat->Option aQ} {ρ:List D} {a:Act} {w:World} {G:Gh}
theorem R.slot (h:R n F σ ρ a w G){t:Nat}{g:Option (aI×Bool)}{v:SV}(hk:σ (kT t)=some (.slot g v))(hg:gOn ρ g=true):dC σ ρ G w v (Aa6 n a F.gh t):=by
 obtain⟨t',e,h'⟩:=h.cont _ _ hk;obtain rfl:=Kb6 e;exact h' hg
theorem R.box (h:R n F σ ρ a w G){b:Nat}{ro:Bool}{ls:List aP}(hk:σ (kB b)=some (.box ro ls)):Lae σ ρ G w b ro ls:=by
 obtain⟨t',e,h'⟩:=h.cont _ _ hk;obtain rfl:=Caj e;exact h'
theorem R.root (h:R n F σ ρ a w G){r:Nat}{x:aI}{m cy:Nat}{st:RSt}(hk:σ (kR r)=some (.root x m cy st)):bW σ ρ G w r x m st:=by
 obtain⟨t',e,_,h'⟩:=h.cont _ _ hk;obtain rfl:=fJ e;exact h'
end
structure Fr (σ:Nat->Option aQ) (G:Gh) (w:World) (ep:Nat->Option aQ) (G':Gh) (w':World):Prop where
 frz:∀ b,G.own b=.frz->b<w.heap.size->G'.own b=.frz/\w'.heap[b]?=w.heap[b]?
 valid:∀ r k,jK σ r k->mU ep r k->mU σ r k
 known:∀ r k,jK σ r k->jK ep r k
 slc:∀ r k b p,mU σ r k->mU ep r k->G.own b=.slc r p->(G'.own b=.slc r p\/G'.own b=.frz)/\w'.heap[b]?=w.heap[b]?
 live:∀ r k m,jK σ r k->zI ep r k m->zI σ r k m/\∀ b p,G.own b=.slc r p->G'.own b=.slc r p
 hdr:∀ r,(σ (kR r)).isSome->G'.hdr r=G.hdr r
 bx:∀ b,(σ (kB b)).isSome->G'.bx b=G.bx b
 keep:∀ k,(σ k).isSome->(ep k).isSome
 froz:∀ r x m k,σ (kR r)=some (.root x m k .frozen)->∀ b p,G'.own b=.slc r p->G.own b=.slc r p
theorem jK.some {σ:Nat->Option aQ}{r k:Nat}(h:jK σ r k):(σ (kR r)).isSome:=by
 obtain⟨x,m,cy,st,e,_⟩:=h;rw[e];rfl
theorem mU.known {σ:Nat->Option aQ}{r k:Nat}(h:mU σ r k):jK σ r k:=by
 obtain⟨x,m,st,e,_⟩:=h;exact⟨x,m,k,st,e,fun _=>Nat.le_refl _⟩
theorem jK.same {σ ep:Nat->Option aQ}(h:∀ r,ep (kR r)=σ (kR r)){r k:Nat}(hk:jK σ r k):jK ep r k:=by
 obtain⟨x,m,cy,st,e,h1⟩:=hk;exact⟨x,m,cy,st,by rw[h];exact e,h1⟩
theorem zI.valid {σ:Nat->Option aQ}{r k m:Nat}(h:zI σ r k m):mU σ r k:=by
 obtain⟨x,e⟩:=h;exact⟨x,m,.live,e,.inl rfl⟩
theorem block_lt {w:World}{a:Addr}{v:Value}(h:w.cell? a=some v):a.block<w.heap.size:=by
 rcases Wbc a.block w.heap.size with h1|h1
 ·exact h1
 ·unfold World.cell? at h
  rw[Array.getElem?_eq_none h1]at h;cases h
theorem Abh {w:World}{a:Addr}{v:Value}(h:w.cell? a=some v):a.block<w.heap.size:=block_lt h
theorem Rd.mono' {ok ok':Nat->Prop}{w w':World}{v:Value}{d:D}(h:Rd ok w v d)
  (hf:∀ b,ok b->b<w.heap.size->ok' b/\w'.heap[b]?=w.heap[b]?):Rd ok' w' v d:=by
 induction h with
 |sc h=>exact .sc h
 |hole v h1=>exact .hole v h1
 | rows A a n c sz rs vs hn hc hA dh cE cR ih =>
  refine .rows A a n c sz rs vs hn hc hA dh (fun i r hi j d hj=>?_) (fun i r hi j d hj=>ih i r hi j d hj);obtain⟨h1,h2⟩:=cE i r hi j d hj;have bj:=Abh h2;rw[add_block]at bj;obtain⟨h3,h4⟩:=hf _ h1 bj;exact⟨h3,(gQ (w:=w) (w':=w') (by rw[add_block];exact h4)).trans h2⟩
theorem Rp.mono' {own own':Nat->Ow}{w w':World}{r r':Nat}{q q':List Nat}{p:List Nat}{m:Nat}{v:Value}{d:D}(h:Rp own w r p m v d)
  (hz:∀ b,own b=.frz->b<w.heap.size->own' b=.frz/\w'.heap[b]?=w.heap[b]?) :
  ∀ s,p=q++s->(∀ b t,own b=.slc r (q++t)->own' b=.slc r' (q'++t)/\w'.heap[b]?=w.heap[b]?)->Rp own' w' r' (q'++s) m v d:=by
 induction h with
 |sc h=>exact fun _ _ _=>.sc h
 |hole v h1=>exact fun _ _ _=>.hole v h1
 |fz h=>exact fun _ _ _=>.fz (h.mono' hz)
 | sl A a n c sz rs vs hn hc hA dh cu cE cR ih =>
  rename_i p m;intro s hp hs;refine .sl A a n c sz rs vs hn hc hA dh (fun e=>?_) (fun i row hi j d hj=>?_) (fun i row hi j d hj=>?_)
  ·obtain⟨h1,h2,h3⟩:=cu e
   rw[hp]at h2;obtain⟨h4,h5⟩:=hs _ _ h2;refine⟨h1,h4,fun k hk=>?_⟩;obtain⟨u,hu,hf⟩:=h3 k hk;exact⟨u,(gQ (w:=w) (w':=w') (by rw[add_block];exact h5)).trans hu,(Cam (w:=w) (w':=w') (by rw[add_block];exact h5)).trans hf⟩
  ·rcases hA with e|⟨e,e'⟩
   ·obtain⟨h1,h2,h3⟩:=cu e
    rw[hp]at h2;obtain⟨h4,h5⟩:=hs _ _ h2;exact (gQ (w:=w) (w':=w') (by rw[add_block];exact h5)).trans (cE i row hi j d hj)
   ·exfalso
    have:i<rs.length:=by
     rcases Wbc i rs.length with h|h
     ·exact h
     ·simp[Xbx h]at hi
    omega
  ·have:=ih i row hi j d hj (s++[i*sz+j]) (by rw[hp,Vbx]) hs
   rwa[<- Vbx]at this
theorem zO.mono {own own':Nat->Ow}{w w':World}{r r':Nat}:∀ (p q q':List Nat) (v u:Value),
  (∀ b t,own b=.slc r (q++t)->own' b=.slc r' (q'++t)/\w'.heap[b]?=w.heap[b]?)->zO own w r q v p u->zO own' w' r' q' v p u
 |[],_,_,_,_,_,h=>h
 | k :: p, q, q', v, u, hs, h => by
  obtain⟨a,n,c,u',rfl,ho,hc,hn⟩:=h;obtain⟨h1,h2⟩:=hs a.block [] (by simpa using ho);refine⟨a,n,c,u',rfl,by simpa using h1,(gQ (w:=w) (w':=w') (by rw[add_block];exact h2)).trans hc,?_⟩
  exact zO.mono p (q++[k]) (q'++[k]) u' u (fun b t hb=>by
   have:=hs b (k::t) (by simpa using hb);simpa using this) hn
section
variable {σ ep:Nat->Option aQ} {ρ:List D} {G G':Gh} {w w':World}
theorem Dag.mono (h:Fr σ G w ep G' w'){deps:List (Nat×Nat)}(hex:∀ z∈deps,jK σ z.1 z.2){v:Value}{d:D}{p:Pth}(hp:Dag σ ρ G w deps v d p):Dag ep ρ G' w' deps v d p:=by
 cases p with
 |no=>trivial
 | view =>
  intro r k m e hl;obtain⟨km,ho⟩:=h.live r k m (hex (r,k) (by simp[e])) hl;have:=(hp r k m e km).mono' (q:=[]) (q':=[]) h.frz [] rfl (fun b t hb=>⟨ho b t hb,(h.slc r k b _ km.valid hl.valid hb).2⟩);simpa using this
 | suf sz lo =>
  intro r k m e hl;obtain⟨km,ho⟩:=h.live r k m (hex (r,k) (by simp[e])) hl;rw[h.hdr r (hex (r,k) (by simp[e])).some];exact hp r k m e km
 | path p =>
  intro r k m e hl;obtain⟨km,ho⟩:=h.live r k m (hex (r,k) (by simp[e])) hl;obtain⟨h1,h2,h3⟩:=hp r k m e km;have hs:∀ b t,G.own b=.slc r ([]++t)->G'.own b=.slc r ([]++t)/\w'.heap[b]?=w.heap[b]?:=fun b t hb=>⟨ho b t hb,(h.slc r k b _ km.valid hl.valid hb).2⟩
  refine⟨h1,?_,?_⟩
  ·have:=h2.mono' (q:=[]) (q':=[]) h.frz _ rfl hs
   rw[List.nil_append]at this;exact this
  ·rw[h.hdr r (hex (r,k) (by simp[e])).some]
   exact h3.mono _ _ _ _ _ hs
theorem allow.mono (h:Fr σ G w ep G' w'){deps:List (Nat×Nat)}(hex:∀ z∈deps,jK σ z.1 z.2)(hv:∀ z∈deps,mU ep z.1 z.2){b:Nat}(hb:allow G deps b)(bj:b<w.heap.size) :
  allow G' deps b/\w'.heap[b]?=w.heap[b]?:=by
 rcases hb with hb|⟨r,k,p,hm,hb⟩
 ·exact⟨.inl (h.frz b hb bj).1,(h.frz b hb bj).2⟩
 ·have za:=hv (r,k) hm
  have:=h.slc r k b p (h.valid r k (hex (r,k) hm) za) za hb;exact⟨this.1.elim (fun e=>.inr ⟨r,k,p,hm,e⟩) .inl,this.2⟩
mutual
theorem aB.mono (h:Fr σ G w ep G' w'):∀ (l:aP) (v:Value),aB σ ρ G w l v->aB ep ρ G' w' l v
 |.dead,_,hl=>by simpa[aB] using hl
 |.sc x,v,hl=>by simpa[aB] using hl
 |.su g x,v,hl=>by simpa[aB] using hl
 | .ex r, v, hl => by
  simp only[aB]at hl ⊢;exact⟨by rw[h.hdr r hl.2.1];exact hl.1,h.keep _ hl.2.1,hl.2.2⟩
 | .sn deps p nie x, v, hl => by
  simp only[aB]at hl ⊢;refine⟨⟨hl.1.1,fun z hz=>h.known _ _ (hl.1.2 z hz)⟩,fun hv=>?_⟩;obtain⟨h1,h2,h3⟩:=hl.2 (fun z hz=>h.valid _ _ (hl.1.2 z hz) (hv z hz));exact⟨h1.mono' fun b hb bj=>allow.mono h hl.1.2 hv hb bj,h2,h3.mono h hl.1.2⟩
 | .px b off, v, hl => by
  simp only[aB]at hl ⊢;exact⟨by rw[h.bx b hl.2];exact hl.1,h.keep _ hl.2⟩
 | .pe l sz i off, v, hl => by
  simp only[aB]at hl ⊢;obtain⟨a,n,c,k,iv,h1,h2⟩:=hl;exact⟨a,n,c,k,iv,aB.mono h l _ h1,h2⟩
 | .rp deps sz x, v, hl => by
  simp only[aB]at hl ⊢;refine⟨⟨hl.1.1,fun z hz=>h.known _ _ (hl.1.2 z hz)⟩,fun hv=>?_⟩
  rcases hl.2 (fun z hz=>h.valid _ _ (hl.1.2 z hz) (hv z hz)) with h1|⟨a,row,h1,h2,h3⟩
  ·exact .inl h1
  ·exact .inr ⟨a,row,h1,h2,h3.mono' fun b hb bj=>allow.mono h hl.1.2 hv hb bj⟩
 |.pn,v,hl=>by simpa[aB] using hl
 | .clo f fS, v, hl => by
  simp only[aB]at hl ⊢;obtain⟨vs,h1,h2⟩:=hl;exact⟨vs,h1,aD.mono h fS vs h2⟩
theorem aD.mono (h:Fr σ G w ep G' w'):∀ (ls:List aP) (vs:List Value),aD σ ρ G w ls vs->aD ep ρ G' w' ls vs
 |[],vs,hl=>by simpa[aD] using hl
 | l :: ls, vs, hl => by
  simp only[aD]at hl ⊢;obtain⟨u,us,e,h1,h2⟩:=hl;exact⟨u,us,e,aB.mono h l u h1,aD.mono h ls us h2⟩
end
theorem iM.mono (h:Fr σ G w ep G' w'):∀ (ts:List (Bool×List aP)) (us:List Value),iM σ ρ G w ts us->iM ep ρ G' w' ts us
 |[],_,ht=>ht
 | (a, ls) :: r, us, ht => by
  obtain⟨u,dj,vs,e,h1,h2,h3⟩:=ht;exact⟨u,dj,vs,e,aD.mono h ls vs h1,h2,iM.mono h r dj h3⟩
theorem dC.mono (h:Fr σ G w ep G' w'){v:SV}{u:Value}(hv:dC σ ρ G w v u):dC ep ρ G' w' v u:=by
 cases v with
 |dead=>trivial
 |one l=>exact aB.mono h l u hv
 |agg ls=>obtain⟨vs,e,h1⟩:=hv;exact⟨vs,e,aD.mono h ls vs h1⟩
 |tup ts=>obtain⟨us,e,h1⟩:=hv;exact⟨us,e,iM.mono h ts us h1⟩
end
def Tan (σ:Nat->Option aQ)(k:Nat)(c:aQ):Nat->Option aQ:=fun j=>if j=k then some c else σ j
def upds (σ:Nat->Option aQ):List (Nat×aQ)->Nat->Option aQ
 |[]=>σ
 |(k,c)::r=>upds (Tan σ k c) r
theorem qU:∀ (u:List (Nat×aQ)) (σ:Nat->Option aQ) (k:Nat) (c:aQ),upds σ u k=some c->(k,c)∈u\/((∀ c',(k,c')∉u)/\σ k=some c)
 |[],σ,k,c,h=>.inr ⟨by simp,h⟩
 | (k', c') :: r, σ, k, c, h => by
  rcases qU r (Tan σ k' c') k c h with h1|⟨h1,h2⟩
  ·exact .inl (Vb1 _ h1)
  ·unfold Tan at h2
   split at h2
   ·rename_i e
    obtain rfl:=Option.some.inj h2;exact .inl (by rw[e];exact Vb7)
   ·rename_i e
    refine .inr ⟨fun c'' hc=>?_,h2⟩
    rcases Vbu.1 hc with h3|h3
    ·exact e (Xb5 h3).1
    ·exact h1 _ h3
theorem fH:∀ (u:List (Nat×aQ)) (σ:Nat->Option aQ) (k:Nat),(∀ c,(k,c)∉u)->upds σ u k=σ k
 |[],_,_,_=>rfl
 | (k', c') :: r, σ, k, h => by
  rw[upds,fH r _ k fun c hc=>h c (Vb1 _ hc)];unfold Tan;rw[if_neg];intro e;exact h c' (by rw[e];exact Vb7)
theorem eP:∀ (u:List (Nat×aQ)) (σ:Nat->Option aQ) (k:Nat),(σ k).isSome\/(∃ c,(k,c)∈u)->(upds σ u k).isSome
 | [], σ, k, h => by
  rcases h with h|⟨c,hc⟩
  ·exact h
  ·simp at hc
 | (k', c') :: r, σ, k, h => by
  refine eP r _ k ?_;unfold Tan
  rcases h with h|⟨c,hc⟩
  ·exact .inl (by split<;>simp_all)
  ·rcases Vbu.1 hc with h1|h1
   ·exact .inl (by rw[if_pos (Xb5 h1).1];rfl)
   ·exact .inr ⟨c,h1⟩
section
variable {n:Nat} {F:bK} {σ:Nat->Option aQ} {ρ:List D} {a a':Act} {w w':World} {G G':Gh}
theorem R.upd (h:R n F σ ρ a w G)(u:List (Nat×aQ))(eC:Fr σ G w (upds σ u) G' w')(dh:a'.tmps.size=n)(hd:a'.defers=[])
  (hF:nH F G' w')
  (htm:∀ t,(∀ c,(kT t,c)∉u)->Aa6 n a' F.gh t=Aa6 n a F.gh t)
  (gl:∀ b ro ls,σ (kB b)=some (.box ro ls)->(∀ c,(kB b,c)∉u)->G'.own (G.bx b).block=G.own (G.bx b).block/\w'.heap[(G.bx b).block]?=w.heap[(G.bx b).block]?)
  (uw:∀ b ls,(kB b,.box false ls)∈u->(G'.bx b).block<F.w0.heap.size->F.own0 (G'.bx b).block=.box b->F.rng b=((G'.bx b).off,(G'.bx b).off+ls.length))
  (gE:∀ k c,(k,c)∈u->upds σ u k=some c->Ab3 n F.gh (upds σ u) ρ G' a' w' k c):R n F (upds σ u) ρ a' w' G':=by
 refine⟨dh,hd,fun k c hk=>?_,hF,fun b ls hk hb ho=>?_⟩
 ·rcases qU u σ k c hk with h1|⟨h1,h2⟩
  ·exact gE k c h1 hk
  ·cases c with
   | slot g v =>
    obtain⟨t,rfl,hv⟩:=h.cont k _ h2;refine⟨t,rfl,fun hg=>?_⟩;rw[htm t h1];exact (hv hg).mono eC
   | box ro ls =>
    obtain⟨b,rfl,h3,h4,h5⟩:=h.cont k _ h2;obtain⟨h6,h7⟩:=gl b ro ls h2 h1;have e:G'.bx b=G.bx b:=eC.bx b (by rw[h2];rfl);refine⟨b,rfl,by rw[e];exact h3,by rw[e,h6];exact h4,fun j l hj=>?_⟩;obtain⟨v,h8,h9,da⟩:=h5 j l hj;rw[e];exact⟨v,(gQ (w:=w) (w':=w') (by rw[add_block];exact h7)).trans h8,(Hav (w:=w) (w':=w') (by rw[add_block];exact h7)).trans h9,aB.mono eC l v da⟩
   | root x m cy st =>
    obtain⟨r,rfl,h0,h3⟩:=h.cont k _ h2;refine⟨r,rfl,eC.keep _ h0,?_⟩;have e:G'.hdr r=G.hdr r:=eC.hdr r h0
    cases st with
    | live =>
     have km:zI (upds σ u) r cy m:=⟨x,hk⟩;obtain⟨hl,ho⟩:=eC.live r cy m ⟨x,m,cy,.live,h2,fun _=>Nat.le_refl _⟩ km;have:=Rp.mono' (q:=[]) (q':=[]) h3 eC.frz [] rfl (fun b t hb=>⟨ho b t hb,(eC.slc r cy b _ hl.valid km.valid hb).2⟩);simp only[bW];rw[e];simpa using this
    | frozen =>
     simp only[bW];rw[e];exact⟨h3.1.mono' eC.frz,fun b p hb=>h3.2 b p (eC.froz r x m cy h2 b p hb)⟩
    |gone=>trivial
    | fwd r' =>
     obtain⟨h4,h5⟩:=h3;exact⟨by rw[e,eC.hdr r' h5];exact h4,eC.keep _ h5⟩
 ·rcases qU u σ _ _ hk with h1|⟨h1,h2⟩
  ·exact uw b ls h1 hb ho
  ·have e:G'.bx b=G.bx b:=eC.bx b (by rw[h2];rfl)
   rw[e]at hb ho ⊢;exact h.rng b ls h2 hb ho
theorem Ba1 (a:Act)(d:Option Tmp)(v:Value):(a.put d v).tmps.size=a.tmps.size:=by
 cases d<;>simp[Act.put]
theorem put_defers (a:Act)(d:Option Tmp)(v:Value):(a.put d v).defers=a.defers:=by
 cases d<;>simp[Act.put]
theorem Gam (n:Nat)(a:Act)(G:Nat->Value)(d t:Nat)(v:Value)(h:d≠t):Aa6 n (a.put (some d) v) G t=Aa6 n a G t:=by
 unfold Aa6;split
 ·simp[Act.put,Wb2,Array.getElem?_setIfInBounds,h]
 ·rfl
theorem pQ (n:Nat)(a:Act)(G:Nat->Value)(d:Nat)(v:Value)(h:d<n)(hs:a.tmps.size=n):Aa6 n (a.put (some d) v) G d=v:=by
 unfold Aa6;rw[if_pos h];simp[Act.put,Wb2,hs,h]
theorem Fr.same (σ:Nat->Option aQ)(G:Gh)(w:World)(u:List (Nat×aQ))(hu:∀ k c,(k,c)∈u->∃ t,k=kT t):Fr σ G w (upds σ u) G w:=by
 have hr:∀ r,upds σ u (kR r)=σ (kR r):=fun r=>fH _ _ _ fun c hc=>by obtain⟨t,e⟩:=hu _ _ hc;exact iQ e.symm
 refine⟨fun b h _=>⟨h,rfl⟩,fun r k _ h=>?_,fun r k h=>?_,fun r k b p _ _ h=>⟨.inl h,rfl⟩,fun r k m _ h=>⟨?_,fun b p h=>h⟩,fun _ _=>rfl,fun _ _=>rfl,fun k h=>eP _ _ _ (.inl h),fun _ _ _ _ _ _ _ h=>h⟩
 ·obtain⟨x,m,st,e,h⟩:=h
  exact⟨x,m,st,by rw[<- hr];exact e,h⟩
 ·obtain⟨x,m,cy,st,e,h⟩:=h
  exact⟨x,m,cy,st,by rw[hr];exact e,h⟩
 ·obtain⟨x,e⟩:=h
  exact⟨x,by rw[<- hr];exact e⟩
def eG (o:Oper)(g:Option (aI×Bool))(v:SV):List (Nat×aQ):=match o.dst with|some d=>[(kT d,.slot g v)]|none=>[]
theorem R.pure (h:R n F σ ρ a w G)(o:Oper)(hd:∀ d,o.dst=some d->d<n)(g:Option (aI×Bool))(sv:SV)(v:Value)
  (hv:gOn ρ g=true->dC σ ρ G w sv v):R n F (upds σ (eG o g sv)) ρ (a.put o.dst v) w G:=by
 have eC:Fr σ G w (upds σ (eG o g sv)) G w:=Fr.same _ _ _ _ fun k c hk=>by
  unfold eG at hk;split at hk
  ·rename_i d e
   simp only[Vbp,Wbd]at hk;exact⟨d,hk.1⟩
  ·simp at hk
 refine h.upd _ eC (by rw[Ba1];exact h.tmps) (by rw[put_defers];exact h.defers) h.frame (fun t ht=>?_) (fun _ _ _ _ _=>⟨rfl,rfl⟩) (fun b ls hb=>?_) (fun k c hk jx=>?_)
 ·unfold eG at ht
  cases e:o.dst with
  |none=>rfl
  | some d =>
   rw[e]at ht;exact Gam _ _ _ _ _ _ fun e'=>ht _ (by rw[e'];exact Vbp.2 rfl)
 ·unfold eG at hb
  split at hb
  ·simp only[Vbp,Wbd]at hb
   exact absurd hb.1.symm mK
  ·simp at hb
 ·have yc:=hk
  unfold eG at hk
  cases e:o.dst with
  |none=>rw[e]at hk;simp at hk
  | some d =>
   rw[e]at hk;simp only[Vbp,Wbd]at hk;obtain⟨rfl,rfl⟩:=hk;refine⟨d,rfl,fun hg=>?_⟩;rw[pQ _ _ _ _ _ (hd d e) h.tmps];exact (hv hg).mono eC
end
end Go.Proofs.YtgpamlpecmldfaaGreat.Rf
