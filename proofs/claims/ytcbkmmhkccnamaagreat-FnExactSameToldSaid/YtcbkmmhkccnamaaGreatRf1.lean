/- Terms for so program's functions, and nh they are right: part 1 of 10. -/
import Derived.Calls
import Derived.Laws.Sem
open Array renaming getD_eq_getD_getElem? → Acx
open List renaming append_assoc → Zbx, mem_cons_of_mem → Zby, mem_singleton → Zb0, mem_cons_self → Zb5, replicate → Zb6, getElem?_eq_none → Bcb
open Nat renaming lt_or_ge → Aca, blt → Ac8, testBit → Bc6, le_succ → Ccp
open Option renaming bind_eq_some_iff → Zbn, bind_some → Zbv, map_some → Acz
set_option linter.unusedSimpArgs false
set_option linter.unusedVariables false
set_option linter.unnecessarySimpa false
set_option linter.unusedSectionVars false
namespace Go.Proofs.YtcbkmmhkccnamaaGreat.Rf
inductive D where
 |int (k:IntKind) (n:Int)
 |bool (b:Bool)
 |str (s:List UInt8)
 |rows (sz:Nat) (rs:List (List D))
 |undef
 |hole
 deriving Inhabited
inductive aK where
 |v (i:Nat)
 |c (d:D)
 deriving Inhabited
def aK.val (ρ:List D):aK->D
 |.v i=>ρ.getD i .undef
 |.c d=>d
def aK.ok (n:Nat):aK->Prop
 |.v i=>i<n
 |.c _=>True
theorem aK.val_append {n:Nat}{ρ gf:List D}{x:aK}(h:x.ok ρ.length):x.val (ρ++gf)=x.val ρ:=by
 cases x with
 |c d=>rfl
 | v i =>
  simp only[aK.ok]at h;simp[aK.val,List.getD_eq_getElem?_getD,List.getElem?_append_left h]
inductive aT where
 |bin (op:BinOp)
 |eqb (neg:Bool)
 |not | neg | inv
 |conv (k:IntKind)
 |len | slen
 |row (sz off:Nat) (ks:List Bool)
 |inb
 |set (sz off n:Nat)
 |app (sz bytes:Nat) (fl:Bool)
 |mk (sz n:Nat)
 |make (bytes:Nat) (zero:List D)
 |sub (sz:Nat) (fl:Bool)
 |ssub
 |pick
 |eqs (ks:List Nat)
 |min | max
 |bstr
 |sidx
 |sid
 |ne
 |emp
 |one (sz:Nat)
 |dep (m:Nat)
 |clr (sz:Nat)
 |id
 deriving Inhabited
def eD:Nat:=140737488355328
def Aan (op:BinOp)(k:IntKind)(a b:Int):Option D :=
 match op with
 |.add=>some (.int k (k.wrap (a+b)))
 |.sub=>some (.int k (k.wrap (a-b)))
 |.mul=>some (.int k (k.wrap (a*b)))
 |.quo=>if b=0 then none else some (.int k (k.wrap (a.tdiv b)))
 |.rem=>if b=0 then none else some (.int k (a.tmod b))
 |.and=>some (.int k (k.wrap (BitVec.ofInt k.bits a &&& BitVec.ofInt k.bits b).toNat))
 |.or=>some (.int k (k.wrap (BitVec.ofInt k.bits a ||| BitVec.ofInt k.bits b).toNat))
 |.xor=>some (.int k (k.wrap (BitVec.ofInt k.bits a ^^^ BitVec.ofInt k.bits b).toNat))
 |.andNot=>some (.int k (k.wrap (BitVec.ofInt k.bits a &&& ~~~ (BitVec.ofInt k.bits b)).toNat))
 |.eql=>some (.bool (a==b))
 |.neq=>some (.bool (a != b))
 |.lss=>some (.bool (a<b))
 |.leq=>some (.bool (a<=b))
 |.gtr=>some (.bool (a>b))
 |.geq=>some (.bool (a ≥ b))
 |_=>none
def Zaw (op:BinOp)(k:IntKind)(a b:Int):Option D :=
 if b<0 then none else
 match op with
 |.shl=>some (.int k (k.wrap (a*2 ^ (min b.toNat k.bits))))
 |.shr=>some (.int k (a.fdiv (2 ^ (min b.toNat k.bits))))
 |_=>none
def Lb0 (op:BinOp)(a b:List UInt8):Option D :=
 match op with
 |.add=>if a.length+b.length<=4611686018427387904 then some (.str (a++b)) else none
 |.eql=>some (.bool (a==b))
 |.neq=>some (.bool (!(a==b)))
 |.lss=>some (.bool (Op.bytesLess a b))
 |.leq=>some (.bool (Op.bytesLess a b||a==b))
 |.gtr=>some (.bool (!(Op.bytesLess a b||a==b)))
 |.geq=>some (.bool (!(Op.bytesLess a b)))
 |_=>none
def Oam (op:BinOp):D->D->Option D
 | .int k a, .int k' b =>
  match op with
  |.shl | .shr=>Zaw op k a b
  |_=>if k=k' then Aan op k a b else none
 |.str a,.str b=>Lb0 op a b
 |_,_=>none
def eqD:Nat->D->D->Option Bool
 |0,.int k a,.int k' b=>if k=k' then some (a==b) else none
 |1,.bool a,.bool b=>some (a==b)
 |2,.str a,.str b=>some (a==b)
 |_,_,_=>none
def Sac:List Nat->List D->List D->Option Bool
 |[],[],[]=>some true
 |k::ks,a::as,b::bs=>(eqD k a b).bind fun x=>if x then Sac ks as bs else some false
 |_,_,_=>none
def chunk (sz:Nat):Nat->List D->List (List D)
 |0,_=>[]
 |n+1,l=>l.take sz::chunk sz n (l.drop sz)
def bytesOf:List (List D)->Option (List UInt8)
 |[]=>some []
 |[.int .u8 n]::r=>(bytesOf r).map fun l=>UInt8.ofNat n.toNat::l
 |_=>none
def Obm (op:BinOp):D->D->Option D
 |.int k a,.int k' b=>if k=k' then some (.int k (if (match op with | .lss=>b<a | _=>b>a:Bool) then b else a)) else none
 |_,_=>none
def Nav (op:BinOp):D->List D->Option D
 |x,[]=>some x
 |x,y::r=>(Obm op x y).bind fun z=>Nav op z r
def D.isSc:D->Bool
 |.int _ _=>true
 |.bool _=>true
 |.str _=>true
 |_=>false
def oZ:Nat->D->Bool
 |_,.hole=>true
 |0,d=>d.isSc
 |m+1,.rows _ rs=>rs.all fun r=>r.all fun d=>oZ m d
 |_+1,d=>d.isSc
def Da4:List Bool->List D->Bool
 |[],_=>true
 |k::ks,d::ds=>(!k||d.isSc)&&Da4 ks ds
 |_::_,[]=>false
def aT.run:aT->List D->Option (List D)
 |.bin op,[a,b]=>(Oam op a b).map fun d=>[d]
 |.eqb ng,[.bool a,.bool b]=>some [.bool (if ng then !(a==b) else a==b)]
 |.not,[.bool b]=>some [.bool (!b)]
 |.neg,[.int k n]=>some [.int k (k.wrap (0-n))]
 |.inv,[.int k n]=>(Aan .xor k (if k.signed then -1 else k.max) n).map fun d=>[d]
 |.conv k,[.int _ n]=>some [.int k (k.wrap n)]
 |.len,[.rows _ rs]=>some [.int .i64 rs.length]
 |.slen,[.str s]=>some [.int .i64 s.length]
 | .row sz off ks, [.rows pd rs, .int _ i] =>
  if pd=sz/\0<=i then match rs[i.toNat]? with
   |some r=>if off+ks.length<=r.length/\Da4 ks (r.drop off)=true then some ((r.drop off).take ks.length) else none
   |none=>none
  else none
 |.inb,[.rows _ rs,.int _ i]=>if 0<=i/\i<rs.length then some [] else none
 | .set sz off n, .rows pd rs :: .int _ i :: vs =>
  if pd=sz/\0<=i then match rs[i.toNat]? with
   |some r=>if off+n<=r.length/\vs.length=n then some [.rows sz (rs.set i.toNat (r.take off++vs++r.drop (off+n)))] else none
   |none=>none
  else none
 |.app sz bytes fl,[.rows pd a,.rows sz'' b]=>if pd=sz/\sz''=sz/\(!fl||(a++b).all fun r=>r.all D.isSc)=true/\(a.length+b.length)*bytes<=eD then some [.rows sz (a++b)] else none
 |.mk sz n,vs=>if vs.length=n*sz then some [.rows sz (chunk sz n vs)] else none
 |.make bytes zero,[.int _ n]=>if 0<=n/\n.toNat*bytes<=eD then some [.rows zero.length (Zb6 n.toNat zero)] else none
 |.sub sz fl,[.rows pd rs,.int _ lo,.int _ hi]=>if pd=sz/\(!fl||rs.all fun r=>r.all D.isSc)=true/\0<=lo/\lo<=hi/\hi<=rs.length then some [.rows sz ((rs.take hi.toNat).drop lo.toNat)] else none
 |.ssub,[.str s,.int _ lo,.int _ hi]=>if 0<=lo/\lo<=hi/\hi<=s.length then some [.str ((s.take hi.toNat).drop lo.toNat)] else none
 |.pick,[.bool c,a,b]=>some [if c then a else b]
 |.eqs ks,vs=>(Sac ks (vs.take ks.length) (vs.drop ks.length)).map fun b=>[.bool b]
 |.min,x::r=>(Nav .lss x r).map fun d=>[d]
 |.max,x::r=>(Nav .gtr x r).map fun d=>[d]
 |.bstr,[.rows _ rs]=>(bytesOf rs).map fun l=>[.str l]
 | .sidx, [.str s, .int _ i] => if 0 <= i then match s[i.toNat]? with
   |some b=>some [.int .u8 b.toNat]
   |none=>none
  else none
 |.ne,[.rows _ rs]=>if rs.isEmpty then none else some []
 |.emp,[.rows _ rs]=>some [.bool rs.isEmpty]
 |.dep m,[d]=>if oZ m d then some [] else none
 |.id,[a]=>some [a]
 |.clr sz,[.rows pd rs,.int _ i]=>if pd=sz/\0<=i then some [.rows sz (rs.take i.toNat++(rs.drop i.toNat).map fun r=>r.map fun _=>.hole)] else none
 |.sid,[.str s]=>some [.str s]
 | .one sz, [.rows pd rs, .int _ i] => if pd = sz /\ 0 <= i then match rs[i.toNat]? with
   |some r=>some [.rows sz [r]]
   |none=>none
  else none
 |_,_=>none
inductive Kind where
 |fall | exit (id:Nat) | ret | cont | yield (i:Nat)
 deriving DecidableEq,Inhabited
inductive Tm (β:Type) where
 |leaf (kind:Kind) (xs:List aK) (ext:β)
 |stuck
 |lt (g:Option (aK×Bool)) (p:aT) (xs:List aK) (n:Nat) (k:Tm β)
 |call (g:Option (aK×Bool)) (f:Nat) (xs:List aK) (n:Nat) (olds:List aK) (k:Tm β)
 |ite (c:aK) (t e:Tm β)
 |bind (i:Nat) (t k:Tm β)
 |loop (init:List aK) (body:Tm β)
 deriving Inhabited
structure Out (β:Type) where
 kind:Kind
 xs:List aK
 ext:β
 env:List D
def Out.vals {β:Type}(o:Out β):List D:=o.xs.map (·.val o.env)
def gOn (ρ:List D):Option (aK×Bool)->Bool
 |none=>true
 | some (x, w) => match x.val ρ with
  |.bool b=>b==w
  |_=>false
def iter {β:Type}:Nat->(List D->Option (Out β))->List D->Option (Out β)
 |0,_,_=>none
 |n+1,f,vs=>(f vs).bind fun o=>if o.kind=.cont then iter n f o.vals else some o
def runT {β:Type}(cf:Nat->List D->Option (List D))(fuel:Nat):Tm β->List D->Option (Out β)
 |.leaf k xs e,ρ=>some ⟨k,xs,e,ρ⟩
 |.stuck,_=>none
 | .lt g p xs n k, ρ =>
  if gOn ρ g then (p.run (xs.map (·.val ρ))).bind fun ds=>if ds.length=n then runT cf fuel k (ρ++ds) else none
  else runT cf fuel k (ρ++Zb6 n .undef)
 | .call g f xs n olds k, ρ =>
  if gOn ρ g then (cf f (xs.map (·.val ρ))).bind fun ds=>if ds.length=n then runT cf fuel k (ρ++ds) else none
  else runT cf fuel k (ρ++(Zb6 (n-olds.length) .undef++olds.map (·.val ρ)))
 | .ite c t e, ρ => match c.val ρ with
  |.bool true=>runT cf fuel t ρ
  |.bool false=>runT cf fuel e ρ
  |_=>none
 |.bind i t k,ρ=>(runT cf fuel t ρ).bind fun o=>if o.kind=.yield i then runT cf fuel k (ρ++o.vals) else some o
 |.loop init body,ρ=>iter fuel (fun vs=>runT cf fuel body (ρ++vs)) (init.map (·.val ρ))
inductive Ent where
 |tm (t:Tm Unit)
 |ext (f:List D->Option (List D))
 |none
def Jb1 {β:Type}(o:Out β):Option (List D):=if o.kind=.ret then some o.vals else none
def kE (T:Nat->Ent):Nat->Nat->List D->Option (List D)
 |0,_,_=>none
 | n + 1, f, args => match T f with
  |.tm t=>(runT (kE T n) n t args).bind Jb1
  |.ext e=>e args
  |.none=>none
def Saf {α:Type}(a:Nat->Option α):Prop:=∀ n r,a n=some r->a (n+1)=some r
theorem Saf.le {α:Type}{a:Nat->Option α}(h:Saf a){n m:Nat}{r:α}(hn:n<=m)(hr:a n=some r):a m=some r:=by
 induction hn with
 |refl=>exact hr
 |step _ ih=>exact h _ _ ih
open Classical in
noncomputable def lim {α:Type}(a:Nat->Option α):Option α :=
 if h:∃ r n,a n=some r then some h.choose else none
theorem gB {α:Type}{a:Nat->Option α}(h:Saf a){r:α}:lim a=some r↔∃ n,a n=some r:=by
 unfold lim;constructor
 ·intro e
  split at e
  ·rename_i hx
   obtain⟨n,hn⟩:=hx.choose_spec;cases e;exact⟨n,hn⟩
  ·cases e
 ·rintro⟨n,hn⟩
  have hx:∃ r n,a n=some r:=⟨r,n,hn⟩;rw[dif_pos hx];obtain⟨m,hm⟩:=hx.choose_spec;have h1:=h.le (Nat.le_max_left n m) hn;have h2:=h.le (Nat.le_max_right n m) hm;rw[h1]at h2;exact h2.symm
theorem Gbr {α:Type}{a:Nat->Option α}(h:∀ n,a n=none):lim a=none:=by
 unfold lim;rw[dif_neg]
 rintro⟨r,n,hn⟩
 rw[h]at hn;cases hn
theorem gD {α:Type}(x:Option α):lim (fun _=>x)=x:=by
 cases x with
 |none=>exact Gbr fun _=>rfl
 |some r=>exact (gB (a:=fun _=>some r) fun _ _ h=>h).2 ⟨0,rfl⟩
theorem Saf.bind {α γ:Type}{a:Nat->Option α}{b:Nat->α->Option γ}(ha:Saf a)(hb:∀ x,Saf fun n=>b n x):Saf fun n=>(a n).bind (b n):=by
 intro n r h;simp only[Zbn]at h ⊢;obtain⟨x,hx,hr⟩:=h;exact⟨x,ha _ _ hx,hb x _ _ hr⟩
theorem Gan {α γ:Type}{a:Nat->Option α}{b:Nat->α->Option γ}(ha:Saf a)(hb:∀ x,Saf fun n=>b n x) :
  lim (fun n=>(a n).bind (b n))=(lim a).bind fun x=>lim fun n=>b n x:=by
 apply Option.ext;intro r;rw[gB (ha.bind hb)];simp only[Zbn];constructor
 ·rintro⟨n,x,hx,hr⟩
  exact⟨x,(gB ha).2 ⟨n,hx⟩,(gB (hb x)).2 ⟨n,hr⟩⟩
 ·rintro⟨x,hx,hr⟩
  obtain⟨n,hn⟩:=(gB ha).1 hx;obtain⟨m,hm⟩:=(gB (hb x)).1 hr;exact⟨max n m,x,ha.le (Nat.le_max_left ..) hn,(hb x).le (Nat.le_max_right ..) hm⟩
def Le {α γ:Type}(f g:α->Option γ):Prop:=∀ x r,f x=some r->g x=some r
theorem mR {β:Type}{f g:List D->Option (Out β)}(h:Le f g):∀ {n m:Nat},n<=m->Le (iter n f) (iter m g)
 |0,_,_,_,_,hr=>by cases hr
 |n+1,0,qb,_,_,_=>absurd qb (by omega)
 | n + 1, m + 1, qb, vs, r, hr => by
  simp only[iter,Zbn]at hr ⊢;obtain⟨o,ho,hr⟩:=hr;refine⟨o,h _ _ ho,?_⟩;split at hr
  ·rename_i hk
   rw[if_pos hk];exact mR h (by omega) _ _ hr
  ·rename_i hk
   rw[if_neg hk];exact hr
theorem Hao {β:Type}{cf cg:Nat->List D->Option (List D)}(h:∀ f,Le (cf f) (cg f)){n m:Nat}(qb:n<=m)(t:Tm β):Le (runT cf n t) (runT cg m t):=by
 induction t with
 |leaf=>exact fun _ _ h=>h
 |stuck=>exact fun _ _ h=>h
 | lt g p xs k' k ih =>
  intro ρ r hr;simp only[runT]at hr ⊢;split at hr
  ·rename_i hg
   rw[if_pos hg];simp only[Zbn]at hr ⊢;obtain⟨ds,hd,hr⟩:=hr;refine⟨ds,hd,?_⟩;split at hr
   ·rename_i hl;rw[if_pos hl];exact ih _ _ hr
   ·cases hr
  ·rename_i hg
   rw[if_neg hg];exact ih _ _ hr
 | call g f xs k' olds k ih =>
  intro ρ r hr;simp only[runT]at hr ⊢;split at hr
  ·rename_i hg
   rw[if_pos hg];simp only[Zbn]at hr ⊢;obtain⟨ds,hd,hr⟩:=hr;refine⟨ds,h _ _ _ hd,?_⟩;split at hr
   ·rename_i hl;rw[if_pos hl];exact ih _ _ hr
   ·cases hr
  ·rename_i hg
   rw[if_neg hg];exact ih _ _ hr
 | ite c t e iht ihe =>
  intro ρ r hr;simp only[runT]at hr ⊢;split at hr
  ·exact iht _ _ hr
  ·exact ihe _ _ hr
  ·cases hr
 | bind i t k iht ihk =>
  intro ρ r hr;simp only[runT,Zbn]at hr ⊢;obtain⟨o,ho,hr⟩:=hr;refine⟨o,iht _ _ ho,?_⟩;split at hr
  ·rename_i hk;rw[if_pos hk];exact ihk _ _ hr
  ·rename_i hk;rw[if_neg hk];exact hr
 | loop init body ih =>
  intro ρ r hr;simp only[runT]at hr ⊢;exact mR (fun vs r hr=>ih _ _ hr) qb _ _ hr
theorem Eao (T:Nat->Ent):∀ {n m:Nat},n<=m->∀ f,Le (kE T n f) (kE T m f)
 |0,_,_,_,_,_,hr=>by cases hr
 |n+1,0,qb,_,_,_,_=>absurd qb (by omega)
 | n + 1, m + 1, qb, f, args, r, hr => by
  simp only[kE]at hr ⊢;split at hr
  ·simp only[Zbn]at hr ⊢
   obtain⟨o,ho,hr⟩:=hr;exact⟨o,Hao (fun f=>Eao T (by omega) f) (by omega) _ _ _ ho,hr⟩
  ·exact hr
  ·cases hr
section
variable (T:Nat->Ent)
noncomputable def Fun (f:Nat)(args:List D):Option (List D):=lim fun n=>kE T n f args
noncomputable def Ev {β:Type}(t:Tm β)(ρ:List D):Option (Out β):=lim fun n=>runT (kE T n) n t ρ
noncomputable def Lp {β:Type}(body:Tm β)(ρ vs:List D):Option (Out β):=lim fun n=>iter n (fun vs=>runT (kE T n) n body (ρ++vs)) vs
variable {T}
theorem Ob4 (f:Nat)(args:List D):Saf fun n=>kE T n f args:=fun n _ h=>Eao T (Ccp n) f _ _ h
theorem Ibj {β:Type}(t:Tm β)(ρ:List D):Saf fun n=>runT (kE T n) n t ρ:=fun n _ h=>Hao (fun f=>Eao T (Ccp n) f) (Ccp n) t _ _ h
theorem Zbm {β:Type}(body:Tm β)(ρ vs:List D):Saf fun n=>iter n (fun vs=>runT (kE T n) n body (ρ++vs)) vs :=
 fun n _ h=>mR (fun vs r hr=>Ibj body _ n r hr) (Ccp n) _ _ h
theorem yX {f:Nat}{args r:List D}:Fun T f args=some r↔∃ n,kE T n f args=some r:=gB (Ob4 f args)
theorem Oaf {β:Type}{t:Tm β}{ρ:List D}{o:Out β}:Ev T t ρ=some o↔∃ n,runT (kE T n) n t ρ=some o:=gB (Ibj t ρ)
theorem Lbb {β:Type}(k:Kind)(xs:List aK)(e:β)(ρ:List D):Ev T (.leaf k xs e) ρ=some ⟨k,xs,e,ρ⟩:=gD _
theorem Ob7 {β:Type}(g:Option (aK×Bool))(p:aT)(xs:List aK)(n:Nat)(k:Tm β)(ρ:List D) :
  Ev T (.lt g p xs n k) ρ=if gOn ρ g then (p.run (xs.map (·.val ρ))).bind fun ds=>if ds.length=n then Ev T k (ρ++ds) else none
   else Ev T k (ρ++Zb6 n .undef):=by
 unfold Ev;simp only[runT];split
 ·rw[Gan (a:=fun _=>p.run _) (fun _ _ h=>h)
   (fun ds=>by split;exact Ibj k _;exact fun _ _ h=>h)]
  rw[gD];congr 1;funext ds;split
  ·rfl
  ·exact gD _
 ·rfl
theorem Dbm {β:Type}(g:Option (aK×Bool))(f:Nat)(xs:List aK)(n:Nat)(olds:List aK)(k:Tm β)(ρ:List D) :
  Ev T (.call g f xs n olds k) ρ=if gOn ρ g then (Fun T f (xs.map (·.val ρ))).bind fun ds=>if ds.length=n then Ev T k (ρ++ds) else none
   else Ev T k (ρ++(Zb6 (n-olds.length) .undef++olds.map (·.val ρ))):=by
 unfold Ev;simp only[runT];split
 ·rw[Gan (a:=fun n=>kE T n f _) (Ob4 f _)
   (fun ds=>by split;exact Ibj k _;exact fun _ _ h=>h)]
  rw[<- Fun];congr 1;funext ds;split
  ·rfl
  ·exact gD _
 ·rfl
theorem Ob8 {β:Type}(c:aK)(t e:Tm β)(ρ:List D) :
  Ev T (.ite c t e) ρ=match c.val ρ with
   |.bool true=>Ev T t ρ
   |.bool false=>Ev T e ρ
   |_=>none:=by
 unfold Ev;simp only[runT];split
 ·rfl
 ·rfl
 ·exact gD _
theorem Lbc {β:Type}(i:Nat)(t k:Tm β)(ρ:List D) :
  Ev T (.bind i t k) ρ=(Ev T t ρ).bind fun o=>if o.kind=.yield i then Ev T k (ρ++o.vals) else some o:=by
 unfold Ev;simp only[runT];rw[Gan (a:=fun n=>runT (kE T n) n t ρ) (Ibj t ρ) (fun o=>by split;exact Ibj k _;exact fun _ _ h=>h)];congr 1;funext o;split
 ·rfl
 ·exact gD _
theorem Lba {β:Type}(init:List aK)(body:Tm β)(ρ:List D):Ev T (.loop init body) ρ=Lp T body ρ (init.map (·.val ρ)):=rfl
theorem Kb9 {β:Type}(body:Tm β)(ρ vs:List D) :
  Lp T body ρ vs=(Ev T body (ρ++vs)).bind fun o=>if o.kind=.cont then Lp T body ρ o.vals else some o:=by
 have hm:∀ vs,Saf fun n=>iter n (fun vs=>runT (kE T n) n body (ρ++vs)) vs:=fun vs=>Zbm body ρ vs
 unfold Lp
 have e:∀ vs r,(lim fun n=>iter n (fun vs=>runT (kE T n) n body (ρ++vs)) vs)=some r↔((Ev T body (ρ++vs)).bind fun o=>if o.kind=.cont then (lim fun n=>iter n (fun vs=>runT (kE T n) n body (ρ++vs)) o.vals) else some o)=some r:=by
  intro vs r;rw[gB (hm vs)];simp only[Zbn];constructor
  ·rintro⟨n,hn⟩
   cases n with
   |zero=>cases hn
   | succ n =>
    simp only[iter,Zbn]at hn;obtain⟨o,ho,hr⟩:=hn;refine⟨o,Oaf.2 ⟨n+1,ho⟩,?_⟩;split at hr
    ·rename_i hk
     rw[if_pos hk,gB (hm _)];exact⟨n+1,mR (fun _ _ h=>h) (Ccp n) _ _ hr⟩
    ·rename_i hk
     rw[if_neg hk];exact hr
  ·rintro⟨o,ho,hr⟩
   obtain⟨n,hn⟩:=Oaf.1 ho;split at hr
   ·rename_i hk
    obtain⟨m,oz⟩:=(gB (hm _)).1 hr;refine⟨max n m+1,?_⟩;simp only[iter,Zbn];refine⟨o,(Ibj body (ρ++vs)).le (by omega) hn,?_⟩;rw[if_pos hk];exact mR (fun vs r h=>(Ibj body (ρ++vs)).le (by omega) h) (by omega) _ _ oz
   ·rename_i hk
    refine⟨n+1,?_⟩;simp only[iter,Zbn];exact⟨o,Ibj body _ _ _ hn,by rw[if_neg hk];exact hr⟩
 exact Option.ext (e vs)
theorem Ob3 {f:Nat}{t:Tm Unit}(h:T f=.tm t)(args:List D):Fun T f args=(Ev T t args).bind Jb1:=by
 apply Option.ext;intro r;rw[yX];simp only[Zbn];constructor
 ·rintro⟨n,hn⟩
  cases n with
  |zero=>cases hn
  | succ n =>
   simp only[kE,h,Zbn]at hn;obtain⟨o,ho,hr⟩:=hn;exact⟨o,Oaf.2 ⟨n,ho⟩,hr⟩
 ·rintro⟨o,ho,hr⟩
  obtain⟨n,hn⟩:=Oaf.1 ho;refine⟨n+1,?_⟩;simp only[kE,h,Zbn];exact⟨o,hn,hr⟩
theorem Oae {f:Nat}{e:List D->Option (List D)}(h:T f=.ext e)(args:List D):Fun T f args=e args:=by
 apply Option.ext;intro r;rw[yX];constructor
 ·rintro⟨n,hn⟩
  cases n with
  |zero=>cases hn
  |succ n=>simpa[kE,h] using hn
 ·intro hr
  exact⟨1,by simpa[kE,h] using hr⟩
end
def Tm.strip {β:Type}:Tm β->Tm Unit
 |.leaf k xs _=>.leaf k xs ()
 |.stuck=>.stuck
 |.lt g p xs n k=>.lt g p xs n k.strip
 |.call g f xs n olds k=>.call g f xs n olds k.strip
 |.ite c t e=>.ite c t.strip e.strip
 |.bind i t k=>.bind i t.strip k.strip
 |.loop init body=>.loop init body.strip
def Out.strip {β:Type}(o:Out β):Out Unit:=⟨o.kind,o.xs,(),o.env⟩
theorem Out.strip_vals {β:Type}(o:Out β):o.strip.vals=o.vals:=rfl
theorem Las {β:Type}{f:List D->Option (Out β)}{g:List D->Option (Out Unit)}(h:∀ vs,g vs=(f vs).map Out.strip):∀ n vs,iter n g vs=(iter n f vs).map Out.strip
 |0,_=>rfl
 | n + 1, vs => by
  simp only[iter,h]
  cases f vs with
  |none=>rfl
  | some o =>
   simp only[Acz,Zbv];by_cases hk:o.kind=.cont
   ·have:o.strip.kind=.cont:=hk
    rw[if_pos hk,if_pos this,Out.strip_vals];exact Las h n _
   ·have:¬ o.strip.kind=.cont:=hk
    rw[if_neg hk,if_neg this];rfl
theorem Xan {β:Type}(cf:Nat->List D->Option (List D))(n:Nat)(t:Tm β):∀ ρ,runT cf n t.strip ρ=(runT cf n t ρ).map Out.strip:=by
 induction t with
 |leaf=>exact fun _=>rfl
 |stuck=>exact fun _=>rfl
 | lt g p xs k' k ih =>
  intro ρ;simp only[Tm.strip,runT];split
  ·cases p.run (xs.map (·.val ρ)) with
   |none=>rfl
   | some ds =>
    simp only[Zbv];split
    ·exact ih _
    ·rfl
  ·exact ih _
 | call g f xs k' olds k ih =>
  intro ρ;simp only[Tm.strip,runT];split
  ·cases cf f (xs.map (·.val ρ)) with
   |none=>rfl
   | some ds =>
    simp only[Zbv];split
    ·exact ih _
    ·rfl
  ·exact ih _
 | ite c t e iht ihe =>
  intro ρ;simp only[Tm.strip,runT];split
  ·exact iht _
  ·exact ihe _
  ·rfl
 | bind i t k iht ihk =>
  intro ρ;simp only[Tm.strip,runT,iht]
  cases runT cf n t ρ with
  |none=>rfl
  | some o =>
   simp only[Acz,Zbv];by_cases hk:o.kind=.yield i
   ·have:o.strip.kind=.yield i:=hk
    rw[if_pos hk,if_pos this,Out.strip_vals];exact ihk _
   ·have:¬ o.strip.kind=.yield i:=hk
    rw[if_neg hk,if_neg this];rfl
 | loop init body ih =>
  intro ρ;simp only[Tm.strip,runT];exact Las (fun vs=>ih _) _ _
inductive Tr (α:Type) where
 |nil
 |node (x:Option α) (l r:Tr α)
 |over (n:Nat) (x:Option α) (t:Tr α)
 deriving Inhabited
def Tr.get {α:Type}:Tr α->Nat->Option α
 |.nil,_=>none
 |.node x l r,n=>bif Nat.beq n 0 then x else bif Nat.beq (n % 2) 1 then l.get (n / 2) else r.get (n / 2-1)
 |.over m x t,n=>bif Nat.beq n m then x else t.get n
def Tr.set {α:Type}:Nat->Tr α->Nat->Option α->Tr α
 |0,t,n,x=>.over n x t
 |k+1,.node y l r,n,x=>bif Nat.beq n 0 then .node x l r else bif Nat.beq (n % 2) 1 then .node y (Tr.set k l (n / 2) x) r else .node y l (Tr.set k r (n / 2-1) x)
 |k+1,.nil,n,x=>bif Nat.beq n 0 then .node x .nil .nil else bif Nat.beq (n % 2) 1 then .node none (Tr.set k .nil (n / 2) x) .nil else .node none .nil (Tr.set k .nil (n / 2-1) x)
 |_+1,.over m y t,n,x=>.over n x (.over m y t)
inductive CK where
 |sc (z:D)
 |sl (sz:Nat)
 |pn
 |ot
 deriving Inhabited
structure TI where
 agg:Bool
 size:Nat
 bytes:Nat
 cells:List CK
 flds:List (Nat×Nat)
 elem:Option Nat
 ik:Option IntKind
 isBool:Bool
 isStr:Bool
 isPtr:Bool
 cmp:Bool
 deriving Inhabited
def flat (P:Program):Nat->TypeId->Option (List TypeId)
 |0,_=>none
 | d + 1, t =>
  match P.underlying t with
  |some (.struct fs)=>fs.toList.foldl (fun acc f=>acc.bind fun l=>(flat P d f.type).bind fun m=>bif Nat.beq f.offset l.length then some (l++m) else none) (some [])
  |some (.array _ _)=>none
  |some _=>some [t]
  |none=>none
def nT (P:Program)(t:TypeId):CK :=
 match P.underlying t with
 |some (.int k)=>.sc (.int k 0)
 |some .bool=>.sc (.bool false)
 |some .string=>.sc (.str [])
 |some (.slice e)=>.sl (((P.info? e).map (·.size)).getD 0)
 |some (.pointer _)=>.pn
 |_=>.ot
def zeroCell:Value->CK->Bool
 |.int k n,.sc (.int k' n')=>decide (k=k')&&decide (n=0)&&decide (n'=0)
 |.bool b,.sc (.bool b')=>decide (b=false)&&decide (b'=false)
 |.string s,.sc (.str l)=>decide (s.data.toList=[])&&decide (l=[])
 |.slice none 0 0,.sl _=>true
 |.pointer none,.pn=>true
 |_,_=>false
def Uah (agg:Bool)(z:Option Value)(cs:List CK):Bool :=
 match agg,z,cs with
 |true,some (.agg vs),cs=>vs.toList.length==cs.length&&(vs.toList.zip cs).all fun p=>zeroCell p.1 p.2
 |false,some v,[c]=>zeroCell v c
 |_,_,_=>false
def Rbw (P:Program)(d:Nat)(t:TypeId):Bool :=
 match flat P d t,P.info? t with
 |some l,some i=>Nat.beq l.length i.size
 |_,_=>false
def Na4 (P:Program):Nat->TypeId->Bool
 |0,_=>false
 | d + 1, t =>
  match P.underlying t with
  |some (.int _)=>true
  |some .bool=>true
  |some .string=>true
  | some (.struct fs) => !(P.stoodInHeld t) && fs.toList.all fun f => f.name != "_" && Na4 P d f.type && Rbw P d f.type
  |_=>false
def Kaj:TypeDesc->Bool
 |.struct _=>true
 |.array _ _=>true
 |_=>false
def Bb2:TypeDesc->List (Nat×Nat)
 |.struct fs=>fs.toList.map fun f=>(f.offset,f.type)
 |_=>[]
def Cbg:TypeDesc->Option Nat
 |.slice e=>some e
 |_=>none
def Rb2:TypeDesc->Option IntKind
 |.int k=>some k
 |_=>none
def Tam:TypeDesc->Bool
 |.bool=>true
 |_=>false
def Bbd:TypeDesc->Bool
 |.string=>true
 |_=>false
def Bbe:TypeDesc->Bool
 |.pointer _=>true
 |_=>false
def Tba (P:Program)(t:TypeId)(i:TypeInfo)(u:TypeDesc)(cs:List CK):TI :=
  { agg:=Kaj u,size:=i.size,bytes:=i.bytes,cells:=cs,flds:=Bb2 u,elem:=Cbg u,ik:=Rb2 u,isBool:=Tam u,isStr:=Bbd u,
    isPtr:=Bbe u,cmp:=Kaj u&&Na4 P 12 t&&!(P.eqGuardType P.depth t) }
def pY (P:Program)(t:TypeId):Option TI :=
 match P.info? t,P.underlying t,(flat P 12 t).map (·.map (nT P)) with
 |some i,some u,some cs=>bif Nat.beq cs.length i.size&&Uah (Kaj u) i.zero cs then some (Tba P t i u cs) else none
 |_,_,_=>none
inductive Pth where
 |no
 |view
 |path (p:List (aK×Nat×Nat))
 |suf (sz:Nat) (lo:aK)
 deriving Inhabited
inductive aR where
 |dead
 |sc (x:aK)
 |su (g:aK×Bool) (x:aK)
 |ex (r:Nat)
 |sn (deps:List (Nat×Nat)) (p:Pth) (nie:Bool) (x:aK)
 |px (b off:Nat)
 |pe (l:aR) (sz:Nat) (i:aK) (off:Nat)
 |rp (deps:List (Nat×Nat)) (sz:Nat) (x:aK)
 |pn
 |clo (f:Nat) (fj:List aR)
 deriving Inhabited
inductive SV where
 |dead
 |one (l:aR)
 |agg (ls:List aR)
 |tup (vs:List (Bool×List aR))
 deriving Inhabited
inductive RSt where
 |live | frozen | gone
 |fwd (r:Nat)
 deriving DecidableEq,Inhabited
inductive aS where
 |slot (g:Option (aK×Bool)) (v:SV)
 |box (ro:Bool) (ls:List aR)
 |root (x:aK) (m bc:Nat) (st:RSt)
 deriving Inhabited
def kT (t:Nat):Nat:=3*t
def kB (b:Nat):Nat:=3*b+1
def kR (r:Nat):Nat:=3*r+2
inductive RdM (α:Type) where
 |ret (a:α)
 |no
 |rd (k:Nat) (f:Option aS->RdM α)
def RdM.bind {α γ:Type}:RdM α->(α->RdM γ)->RdM γ
 |.ret a,f=>f a
 |.no,_=>.no
 |.rd k h,f=>.rd k fun c=>(h c).bind f
instance:Monad RdM:={ pure:=.ret,bind:=.bind }
def RdM.run {α:Type}(look:Nat->Option aS):RdM α->Option (α×List Nat)
 |.ret a=>some (a,[])
 |.no=>none
 |.rd k f=>((f (look k)).run look).map fun x=>(x.1,k::x.2)
def RdM.eval {α:Type}(look:Nat->Option aS):RdM α->Option α
 |.ret a=>some a
 |.no=>none
 |.rd k f=>(f (look k)).eval look
def rdK (k:Nat):RdM (Option aS):=.rd k .ret
def nN {α:Type}:Option α->RdM α
 |some a=>.ret a
 |none=>.no
def bL (b:Bool):RdM Unit:=bif b then .ret () else .no
inductive Step where
 |prim (p:aT) (xs:List aK) (n:Nat)
 |call (f:Nat) (xs:List aK) (n:Nat) (olds:List aK)
 deriving Inhabited
def Step.n:Step->Nat
 |.prim _ _ n=>n
 |.call _ _ n _=>n
structure bN where
 lets:List Step
 upd:List (Nat×aS)
 deriving Inhabited
def bH (l:List Step):Nat:=l.foldl (fun s x=>s+x.n) 0
inductive LS where
 |sc
 |fz (nie:Bool)
 |mu (m:Nat)
 |ow (m:Nat)
 |px (b:Nat)
 |clo (f:Nat) (fj:List LS)
 |rp (sz:Nat)
 deriving Inhabited
inductive BS where
 |sc
 |fz (nie:Bool)
 |ow (m:Nat)
 |ot
 deriving Inhabited
inductive BO where
 |sc
 |fz
 |ow (m:Nat)
 |dead
 deriving Inhabited
inductive LR where
 |sc
 |fz
 |ow (m:Nat)
 |rp (sz:Nat)
 |bx (cells:List BO)
 deriving Inhabited
structure Sig where
 fn:Nat
 params:List (Bool×List LS)
 boxes:List (Bool×List (BS×BO))
 results:List (Bool×List LR)
 deriving Inhabited
structure Env where
 ti:Nat->Option TI
 sigs:List (Nat×Sig)
 ntmps:Nat
 ngh:Nat:=0
 freezeEx:Bool:=false
 moveSn:Bool:=false
 nomv:List (Nat×Nat):=[]
 hints:List (Nat×List (Nat×Nat×Nat×Nat)×List Nat×Nat×List Nat):=[]
 pxs:List Nat:=[]
 nbx:Nat:=0
 deriving Inhabited
def Rb5 (a b:IntKind):Bool:=decide (a=b)
def D.beq0:D->D->Bool
 |.int k n,.int k' n'=>Rb5 k k'&&decide (n=n')
 |.bool a,.bool b=>a==b
 |.str a,.str b=>a==b
 |.rows s [],.rows s' []=>Nat.beq s s'
 |.undef,.undef=>true
 |.hole,.hole=>true
 |_,_=>false
def aK.beq0:aK->aK->Bool
 |.v i,.v j=>Nat.beq i j
 |.c a,.c b=>a.beq0 b
 |_,_=>false
def Kbr:Option (aK×Bool)->Option (aK×Bool)->Bool
 |none,none=>true
 |some (a,b),some (c,d)=>a.beq0 c&&(b==d)
 |_,_=>false
def fH:CK->aR
 |.sc z=>.sc (.c z)
 |.sl sz=>.sn [] .no true (.c (.rows sz []))
 |.pn=>.pn
 |.ot=>.dead
def Ta3 (ti:Nat->Option TI)(t:TypeId):Value->Option SV
 |.int k n=>some (.one (.sc (.c (.int k n))))
 |.bool b=>some (.one (.sc (.c (.bool b))))
 |.string s=>some (.one (.sc (.c (.str s.data.toList))))
 | .slice none 0 0 => match ti t with
  |some { cells:=[.sl sz],.. }=>some (.one (.sn [] .no true (.c (.rows sz []))))
  |_=>none
 |.pointer none=>some (.one .pn)
 |_=>none
section
variable (E:Env)
def noG:Option (aK×Bool)->Bool
 |none=>true
 |some _=>false
def unG (g:Option (aK×Bool)):SV->SV
 |.one (.su h x)=>bif Kbr g (some h) then .one (.sc x) else .one (.su h x)
 |v=>v
def gOk (g:Option (aK×Bool)):Option (aK×Bool)->Bool
 |none=>true
 |g'=>Kbr g g'
def Pa1 (g:Option (aK×Bool))(t:TypeId):Operand->RdM SV
 | .tmp k => .rd (kT k) fun
  |some (.slot g' v)=>bif gOk g g'&&Ac8 k E.ntmps then .ret (unG g v) else .no
  |_=>.no
 |.const v=>nN (Ta3 E.ti t v)
 |.func f=>.ret (.one (.clo f []))
 |.global _=>.no
def one:SV->RdM aR
 |.one l=>.ret l
 |_=>.no
def rdL (g:Option (aK×Bool))(t:TypeId)(x:Operand):RdM aR:=do one (<- Pa1 E g t x)
def uX (g:Option (aK×Bool)):aR->Option aK
 |.sc a=>some a
 |.su h a=>bif Kbr g (some h) then some a else none
 |_=>none
def rdA (g:Option (aK×Bool))(t:TypeId)(x:Operand):RdM aK:=do
 nN (uX g (<- rdL E g t x))
def Laa (g:Option (aK×Bool))(h:aK×Bool)(t:TypeId)(x:Operand):RdM aK:=do
 let l <- rdL E g t x
 match uX g l with
 |some a=>.ret a
 |none=>nN (uX (some h) l)
def mkS (g:Option (aK×Bool))(x:aK):SV:=match g with
 |none=>.one (.sc x)
 |some z=>.one (.su z x)
def vX:List (Nat×Nat)->RdM (List (Nat×Nat))
 |[]=>.ret []
 | (r, k) :: rest => do
  match <- rdK (kR r) with
  | some (.root _ _ bc st) =>
   let ds <- vX rest
   match st with
   |.frozen=>bif Nat.beq bc k then .ret ds else .no
   |.live=>bif Nat.beq bc k then .ret ((r,k)::ds) else .no
   |_=>.no
  |_=>.no
structure SlR where
 x:aK
 deps:List (Nat×Nat)
 own:Option (Nat×Nat×Nat×Pth)
 nie:Bool
def yB:aR->RdM SlR
 | .ex r => do
  match <- rdK (kR r) with
  |some (.root x m bc .live)=>.ret ⟨x,[(r,bc)],some (r,bc,m,.path []),false⟩
  |some (.root x m bc .frozen)=>.ret ⟨x,[],none,false⟩
  |_=>.no
 | .sn deps p nie x => do
  let ds <- vX deps
  match p,deps,ds with
  |.no,_,_=>.ret ⟨x,ds,none,nie⟩
  | p, [(r, k)], [_] => do
   match <- rdK (kR r) with
   |some (.root _ m _ .live)=>.ret ⟨x,[(r,k)],some (r,k,m,p),nie⟩
   |_=>.no
  |_,_,_=>.ret ⟨x,ds,none,nie⟩
 |_=>.no
def jN (s:SlR)(i:aK)(sz off:Nat):CK->aK->aR
 |.sc _,y=>.sc y
 | .sl _, y =>
  match s.own with
  |some (r,k,m,.path p)=>bif Nat.ble (p.length+2) m then .sn [(r,k)] (.path (p++[(i,sz,off)])) false y else .sn [] .no false y
  |_=>.sn s.deps .no false y
 |_,_=>.dead
def eO (s:SlR)(i:aK)(sz:Nat):Nat->List CK->Nat->List aR
 |_,[],_=>[]
 |off,c::cs,y=>jN s i sz off c (.v y)::eO s i sz (off+1) cs (y+1)
def jY (agg:Bool):SV->Option (List aR)
 |.one l=>bif agg then none else some [l]
 |.agg ls=>bif agg then some ls else none
 |_=>none
def Uaz (agg:Bool)(ls:List aR):Option SV :=
 bif agg then some (.agg ls) else match ls with
  |[l]=>some (.one l)
  |_=>none
def Fam:CK->Nat
 |.sc (.int _ _)=>0
 |.sc (.bool _)=>1
 |.sc (.str _)=>2
 |_=>3
def Kbh:CK->Bool
 |.sc _=>true
 |_=>false
def Oal:List CK->Bool
 |[]=>true
 |.sc _::r=>Oal r
 |_=>false
structure Put where
 xs:List aK
 moves:List (Nat×Nat×Nat)
 holes:List (Nat×Nat×List (aK×Nat×Nat))
 frz:List Nat
 depth:Nat
def big:Nat:=99
def Tab (mv dq:Bool)(off:Nat):aR->RdM Put
 |.sc x=>.ret ⟨[x],[],[],[],big⟩
 | .ex r => do
  match <- rdK (kR r) with
  |some (.root x m bc .live)=>bif mv then .ret ⟨[x],[(off,r,m)],[],[],m⟩ else .ret ⟨[x],[],[],[r],0⟩
  |some (.root x m bc .frozen)=>.ret ⟨[x],[],[],[],0⟩
  |_=>.no
 | .sn deps p nie x => do
  match deps,nie,x with
  |[],true,.c (.rows _ [])=>.ret ⟨[x],[],[],[],big⟩
  | _, _, _ =>
   let s <- yB (.sn deps p nie x)
   match s.own with
   |some (r,k,m,.path q)=>bif dq&&Nat.ble (q.length+1) m then .ret ⟨[x],[],[(off,r,q)],[],m-q.length⟩ else .ret ⟨[x],[],[],[r],0⟩
   |_=>.ret ⟨[x],[],[],s.deps.map (·.1),0⟩
 |_=>.no
def rY (mv dq:Bool):Nat->List aR->RdM Put
 |_,[]=>.ret ⟨[],[],[],[],big⟩
 | off, l :: ls => do
  let a <- Tab mv dq off l
  let b <- rY mv dq (off+1) ls
  .ret ⟨a.xs++b.xs,a.moves++b.moves,a.holes++b.holes,a.frz++b.frz,min a.depth b.depth⟩
def has (l:List Nat)(n:Nat):Bool:=l.any (Nat.beq n)
def meets (a b:List Nat):Bool:=a.any fun x=>has b x
def dQ:List Nat->RdM (List (Nat×aS))
 |[]=>.ret []
 | r :: rs => do
  match <- rdK (kR r) with
  | some (.root x m bc .live) => do
   let l <- dQ rs
   .ret ((kR r,.root x m bc .frozen)::l)
  |some (.root _ _ _ .frozen)=>dQ rs
  |_=>.no
def distinct:List Nat->Bool
 |[]=>true
 |x::r=>!(has r x)&&distinct r
def Nab:Nat->aK->List (aK×Nat×Nat)->aK->List Step×aK
 |_,_,[],y=>([],y)
 | nv, X, (i, sz, off) :: p, y =>
  match p with
  |[]=>([.prim (.set sz off 1) [X,i,y] 1],.v nv)
  | _ =>
   let (l,z):=Nab (nv+1) (.v nv) p y
   let n:=bH l
   ([.prim (.row sz off [false]) [X,i] 1]++l++[.prim (.set sz off 1) [X,i,z] 1],.v (nv+1+n))
def tV (o:Oper)(g:Option (aK×Bool))(lets:List Step)(v:SV)(upd:List (Nat×aS)):RdM bN :=
 .ret ⟨lets,(match o.dst with|some d=>[(kT d,.slot g v)]|none=>[])++upd⟩
def tT (o:Oper)(g:Option (aK×Bool))(nv:Nat)(p:aT)(xs:List aK):RdM bN :=
 .ret ⟨[.prim p xs 1],match o.dst with|some d=>[(kT d,.slot none (mkS g (.v nv)))]|none=>[]⟩
def Abi (o:Oper)(g:Option (aK×Bool))(nv:Nat)(v:SV):RdM bN :=
 match g,v with
 | some _, .one l => match uX g l with
  |some x=>tT o g nv .id [x]
  |none=>tV o g [] v []
 |_,_=>tV o g [] v []
def atoms:List aR->Option (List aK)
 |[]=>some []
 |.sc x::r=>(atoms r).map (x::·)
 |_=>none
def uZ:List SV->Option (List aR)
 |[]=>some []
 |.one l::r=>(uZ r).map (l::·)
 |_=>none
def Jas (g:Option (aK×Bool)):List aR->Option (List aK)
 |[]=>some []
 |l::r=>(uX g l).bind fun x=>(Jas g r).map (x::·)
def tiR (t:TypeId):RdM TI:=nN (E.ti t)
def setRange {α:Type}(ls:List α)(off:Nat)(vs:List α):List α:=ls.take off++vs++ls.drop (off+vs.length)
def Oa5:aR->Bool
 |.su _ _=>false
 |_=>true
def Dao (nv:Nat)(mv dq:Bool)(o:Oper)(g:Option (aK×Bool))(ti:TI)(p:aR)(ls:List aR):RdM bN:=do
 bL (Nat.beq ls.length ti.size&&o.dst.isNone)
 match p with
 | .px b off => do
  match <- rdK (kB b) with
  | some (.box false bs) => do
   bL (Nat.ble (off+ls.length) bs.length&&noG g&&ls.all Oa5)
   .ret ⟨[],[(kB b,.box false (setRange bs off ls))]⟩
  |_=>.no
 | .pe l sz i off => do
  bL (noG g)
  let s <- yB l
  match s.own with
  | some (r, k, m, .path q) => do
   bL (Nat.ble (q.length+1) m)
   match <- rdK (kR r) with
   | some (.root X m bc .live) => do
    let pu <- rY mv dq off ls
    let fr <- dQ pu.frz
    bL (!(has pu.frz r)&&!(pu.moves.any fun z=>Nat.beq z.2.1 r)&&pu.holes.isEmpty&&distinct (pu.moves.map (·.2.1))&&!(pu.moves.any fun z=>has pu.frz z.2.1))
    let m':=min m (q.length+1+pu.depth)
    let st1:Step:=.prim (.set sz off ti.size) ([s.x,i]++pu.xs) 1
    let (l2,X'):=Nab (nv+1) X q (.v nv)
    .ret ⟨st1::l2,(kR r,.root X' m' (bc+1) .live)::(pu.moves.map fun z=>(kR z.2.1,.root (.c .hole) 0 0 .gone))++fr⟩
   |_=>.no
  |_=>.no
 |_=>.no
def Uat (nv:Nat)(o:Oper)(g:Option (aK×Bool))(ti:TI)(p:aR):RdM bN:=do
 match p with
 | .px b off => do
  match <- rdK (kB b) with
  | some (.box _ bs) =>
   bL (Nat.ble (off+ti.size) bs.length)
   match Uaz ti.agg ((bs.drop off).take ti.size) with
   |some v=>Abi o g nv v
   |none=>.no
  |_=>.no
 | .pe l sz i off => do
  let s <- yB l
  match Uaz ti.agg (eO s i sz off ti.cells nv) with
  |some (.one (.sc x))=>tT o g nv (.row sz off [true]) [s.x,i]
  |some v=>tV o g [.prim (.row sz off (ti.cells.map Kbh)) [s.x,i] ti.size] v []
  |none=>.no
 |_=>.no
def Sap (o:Oper)(g:Option (aK×Bool))(fo:Nat):aR->RdM bN
 |.px b off=>tV o g [] (.one (.px b (off+fo))) []
 |.pe l sz i off=>tV o g [] (.one (.pe l sz i (off+fo))) []
 |_=>.no
def sK (flds:List (Nat×Nat))(ti:Nat->Option TI):List aR->List (Nat×SV)->Option (List aR)
 |ls,[]=>some ls
 | ls, (i, v) :: r =>
  match flds[i]? with
  | some (off, t) => match ti t with
   | some f => match jY f.agg v with
    |some vs=>bif Nat.beq vs.length f.size&&Nat.ble (off+f.size) ls.length then sK flds ti (setRange ls off vs) r else none
    |none=>none
   |none=>none
  |none=>none
def Dax (g:Option (aK×Bool))(ty:Nat->TypeId):List (Nat×Operand)->RdM (List (Nat×SV))
 |[]=>.ret []
 | (i, x) :: r => do
  let v <- Pa1 E g (ty i) x
  let l <- Dax g ty r
  .ret ((i,v)::l)
def Cav (ti:TI)(len:Nat):List aR->List (Nat×SV)->Option (List aR)
 |ls,[]=>some ls
 | ls, (i, v) :: r =>
  match jY ti.agg v with
  |some vs=>bif Nat.beq vs.length ti.size&&Ac8 i len then Cav ti len (setRange ls (i*ti.size) vs) r else none
  |none=>none
def Gbb {α:Type}(l:List α):Nat->List α
 |0=>[]
 |n+1=>l++Gbb l n
def Uau (pz:Bool)(y:SlR):RdM (Nat×List (Nat×aS)×List Nat) :=
 bif pz then .ret (big,[],y.deps.map (·.1)) else
 match y.own with
 | some (r, k, m, .path []) =>
  bif Nat.ble 2 m then .ret (m,[(kR r,.root (.c .hole) 0 0 .gone)],[r]) else .ret (1,[],[r])
 | some (r, k, m, _) => do
  let fr <- dQ [r]
  .ret (1,fr,[r])
 | none => match y.x with
  |.c (.rows _ [])=>.ret (big,[],[])
  | _ => do
   let fr <- dQ (y.deps.map (·.1))
   .ret (1,fr,y.deps.map (·.1))
def xW (nv nr:Nat)(o:Oper)(ti:TI)(y:SlR)(dy:Nat)(gi:List (Nat×aS))(sx:aK)(m:Nat)(pre:List Step)(upd:List (Nat×aS)):RdM bN :=
 tV o none (pre++[.prim (.app ti.size ti.bytes (Oal ti.cells)) [sx,y.x] 1]) (.one (.ex nr))
  ((kR nr,.root (.v (nv+bH pre)) (bif Oal ti.cells then big else min m dy) 0 .live)::upd++gi)
def Maj (nv nr:Nat)(mv dq:Bool)(o:Oper)(ti:TI)(sl yl:aR):RdM bN:=do
 let y <- yB yl
 let pz:=Oal ti.cells
 let (dy,gi,ry) <- Uau pz y
 match sl with
 |.sn [] _ true (.c (.rows z []))=>xW nv nr o ti y dy gi (.c (.rows z [])) big [] []
 | _ => do
  let s <- yB sl
  match s.own with
  | some (r, k, m, q) =>
   bL ((!(has ry r)||pz)&&Nat.ble 1 m)
   match q with
   |.path []=>xW nv nr o ti y dy gi s.x m [] [(kR r,.root (.c .hole) 0 0 .gone)]
   |.view=>bif pz||Nat.beq m 1 then xW nv nr o ti y dy gi s.x m [] [(kR r,.root (.c .hole) 0 0 .gone)] else .no
   | .path q => do
    bL (Nat.ble (q.length+1) m&&!(has ry r))
    match <- rdK (kR r) with
    | some (.root X m bc .live) =>
     let (l,X'):=Nab nv X q (.c .hole)
     xW nv nr o ti y dy gi s.x (m-q.length) l [(kR r,.root X' m (bc+1) .live)]
    |_=>.no
   |.no=>.no
   |.suf _ _=>.no
  |none=>.no
def jO:List LS->List aR->List (Nat×Nat×Nat)->Option (List (Nat×Nat×Nat))
 |[],[],acc=>some acc
 |.px b::ss,.px c off::ls,acc=>jO ss ls ((b,c,off)::acc)
 |_,_,_=>none
def Pap:List LS->List aR->Bool
  |[],[]=>true
  | s :: ss, l :: ls =>
    (match s,l with
     |.sc,.sc _=>true
     |.sc,.su _ _=>true
     |.fz _,.ex _=>true
     |.fz _,.sn ..=>true
     |.mu _,.ex _=>true
     |.mu _,.sn ..=>true
     |.ow _,.ex _=>true
     |.ow _,.sn ..=>true
     |.px _,.px _ _=>true
     |.clo f cs,.clo f' jv=>Nat.beq f f'&&Nat.beq cs.length jv.length
     |.rp _,.rp _ _ _=>true
     |_,_=>false)&&Pap ss ls
  |_,_=>false
def tH:SV->List aR
 |.one l=>[l]
 |.agg ls=>ls
 |_=>[]
def Sbm:SV->Bool
 |.agg _=>true
 |_=>false
def Uaa:List (Bool×List LS)->List SV->Bool
 |[],[]=>true
 |(a,ss)::ps,v::vs=>(a==Sbm v)&&Pap ss (tH v)&&Uaa ps vs
 |_,_=>false
def Iaz (f:Nat)(vs:List SV):List (Nat×Sig)->Option (Nat×Sig)
 |[]=>none
 |(k,s)::r=>bif Nat.beq s.fn f&&Uaa s.params vs then some (k,s) else Iaz f vs r
inductive RT where
 |nil
 |own (r d:Nat)
 |mu (r d:Nat) (q:List (aK×Nat×Nat)) (X:aK)
 deriving Inhabited
structure Take where
 xs:List aK
 ptrs:List (Nat×Nat×Nat)
 deps:List (Nat×Nat)
 lets:List Step
 rts:List RT
def Take.empty:Take:=⟨[],[],[],[],[]⟩
def Oat (g:Option (aK×Bool))(T:Take)(l:aR):RdM Take:=do
 let x <- nN (uX g l)
 .ret { T with xs:=T.xs++[x] }
def rO (T:Take)(nie:Bool)(l:aR):RdM Take:=do
 let s <- yB l
 .ret { T with xs:=T.xs++[s.x],deps:=T.deps++s.deps,lets:=T.lets++(bif nie&&!s.nie then [.prim .ne [s.x] 0] else []) }
def uU (T:Take)(d:Nat):aR->RdM Take
 | .ex r => do
  match <- rdK (kR r) with
  | some (.root x m bc .live) => do
   bL (Nat.ble d m)
   .ret { T with xs:=T.xs++[x],rts:=T.rts++[.own r d] }
  |_=>.no
 |.sn [] _ true (.c (.rows z []))=>.ret { T with xs:=T.xs++[.c (.rows z [])],rts:=T.rts++[.nil] }
 |_=>.no
def Kar (T:Take)(d:Nat)(l:aR):RdM Take:=do
 let s <- yB l
 match s.own with
 | some (r, k, m, .path q) => do
  bL (Nat.ble (q.length+d) m)
  match <- rdK (kR r) with
  |some (.root X _ _ .live)=>.ret { T with xs:=T.xs++[s.x],rts:=T.rts++[.mu r d q X] }
  |_=>.no
 |_=>.no
def Ga6 (T:Take)(z:Nat):aR->RdM Take
 | .rp deps pd x => do
  let ds <- vX deps
  .ret { T with xs:=T.xs++[x],deps:=T.deps++ds }
 |.pn=>.ret { T with xs:=T.xs++[.c (.rows z [])] }
 |_=>.no
def sZ (g:Option (aK×Bool))(T:Take):LS->aR->RdM Take
 |.sc,l=>Oat g T l
 |.fz nie,l=>rO T nie l
 |.mu d,l=>Kar T d l
 |.ow d,l=>uU T d l
 |.px b,.px c off=>.ret { T with ptrs:=T.ptrs++[(b,c,off)] }
 | .clo f cs, .clo f' ls =>
  match jO cs ls [] with
  |some l=>bif Nat.beq f f' then .ret { T with ptrs:=T.ptrs++l } else .no
  |none=>.no
 |.rp z,l=>Ga6 T z l
 |_,_=>.no
def dD (g:Option (aK×Bool)):Take->List LS->List aR->RdM Take
 |T,[],[]=>.ret T
 | T, s :: ss, l :: ls => do
  let T <- sZ g T s l
  dD g T ss ls
 |_,_,_=>.no
def eZ (g:Option (aK×Bool)):Take->List (Bool×List LS)->List SV->RdM Take
 |T,[],[]=>.ret T
 | T, (a, ss) :: ps, v :: vs => do
  let ls <- nN (jY a v)
  let T <- dD g T ss ls
  eZ g T ps vs
 |_,_,_=>.no
def Bab (T:Take):BS->aR->RdM Take
 |.sc,.sc x=>.ret { T with xs:=T.xs++[x] }
 |.fz nie,l=>rO T nie l
 |.ow d,l=>uU T d l
 |.ot,l=>bif Oa5 l then .ret T else .no
 |_,_=>.no
def dY:Take->List (BS×BO)->List aR->RdM Take
 |T,[],_=>.ret T
 | T, (s, _) :: ss, l :: ls => do
  let T <- Bab T s l
  dY T ss ls
 |_,_::_,[]=>.no
def Vb3:List (BS×BO)->Bool
 |[]=>true
 |(.ow _,_)::_=>false
 |_::r=>Vb3 r
def oJ (b:Nat):List (Nat×Nat×Nat)->Option (Nat×Nat)
 |[]=>none
 |(b',c,off)::r=>bif Nat.beq b' b then some (c,off) else oJ b r
def eQ (ptrs:List (Nat×Nat×Nat)):Take->Nat->List (Bool×List (BS×BO))->RdM Take
 |T,_,[]=>.ret T
 | T, b, (ro, cs) :: r => do
  match oJ b ptrs with
  | some (c, off) => do
   match <- rdK (kB c) with
   | some (.box la ls) => do
    bL (((ro&&Vb3 cs)||(!ro&&!la&&!cs.isEmpty))&&Nat.ble (off+cs.length) ls.length)
    let T <- dY T cs (ls.drop off)
    eQ ptrs T (b+1) r
   |_=>.no
  |none=>.no
def iP (w:Bool)(ptrs:List (Nat×Nat×Nat)):Nat->List (Bool×List (BS×BO))->List Nat
 |_,[]=>[]
 |b,(ro,_)::r=>bif ro==w then (match oJ b ptrs with | some (c,_)=>c::iP w ptrs (b+1) r | none=>iP w ptrs (b+1) r) else iP w ptrs (b+1) r
def Vaf (nbx:Nat)(ptrs:List (Nat×Nat×Nat)):List (Nat×Nat×Nat)->Bool
 |[]=>true
 |(b,c,off)::r=>Ac8 b nbx&&(match oJ b ptrs with | some (c',kq)=>Nat.beq c c'&&Nat.beq off kq | none=>false)&&Vaf nbx ptrs r
def bZ:List RT->List Nat
 |[]=>[]
 |.nil::r=>bZ r
 |.own s _::r=>s::bZ r
 |.mu s _ _ _::r=>s::bZ r
def Zah (s:Sig)(T:Take):Bool :=
 let wr:=iP false T.ptrs 0 s.boxes
 Vaf s.boxes.length T.ptrs T.ptrs&&distinct (bZ T.rts)&&!(T.deps.any fun d=>has (bZ T.rts) d.1)&&distinct wr&&!(meets wr (iP true T.ptrs 0 s.boxes))
def LR.n:LR->Nat
 |.bx cs=>cs.length
 |_=>1
def mZ:List LR->Nat
 |[]=>0
 |s::ss=>s.n+mZ ss
def bxL:List LR->Nat
 |[]=>0
 |.bx _::ss=>1+bxL ss
 |_::ss=>bxL ss
def kQ:List (Bool×List LR)->Nat
 |[]=>0
 |(_,ss)::rs=>bxL ss+kQ rs
def bK:List (Bool×List LR)->Nat
 |[]=>0
 |(_,ss)::rs=>mZ ss+bK rs
def jP (deps:List (Nat×Nat))(y nr:Nat):BO->aR×List (Nat×aS)×Nat
 |.sc=>(.sc (.v y),[],nr)
 |.fz=>(.sn deps .no false (.v y),[],nr)
 |.ow m=>(.ex nr,[(kR nr,.root (.v y) m 0 .live)],nr+1)
 |.dead=>(.dead,[],nr)
def dO (deps:List (Nat×Nat)):Nat->Nat->List BO->List aR×List (Nat×aS)×Nat
 |_,nr,[]=>([],[],nr)
 | y, nr, s :: ss =>
  let (l,u,nr):=jP deps y nr s
  let (ls,us,nr):=dO deps (y+1) nr ss
  (l::ls,u++us,nr)
def cB (gd:Bool)(deps:List (Nat×Nat))(nb y nr:Nat):LR->aR×List (Nat×aS)×Nat
 |.sc=>(.sc (.v y),[],nr)
 |.fz=>(.sn deps .no false (.v y),[],nr)
 |.ow m=>bif gd then (.sn deps .no false (.v y),[],nr+1) else (.ex nr,[(kR nr,.root (.v y) m 0 .live)],nr+1)
 |.rp sz=>(.rp deps sz (.v y),[],nr)
 | .bx cs =>
  let (ls,us,nr):=dO deps y nr cs
  (.px nb 0,(kB nb,.box false ls)::us,nr)
def dH (gd:Bool)(deps:List (Nat×Nat))(nb:Nat):Nat->Nat->List LR->List aR×List (Nat×aS)×Nat
 |_,nr,[]=>([],[],nr)
 | y, nr, s :: ss =>
  let (l,u,nr):=cB gd deps nb y nr s
  let (ls,us,nr):=dH gd deps nb (y+s.n) nr ss
  (l::ls,u++us,nr)
def jA (gd:Bool)(deps:List (Nat×Nat))(nb:Nat):Nat->Nat->List (Bool×List LR)->List (Bool×List aR)×List (Nat×aS)×Nat
 |_,nr,[]=>([],[],nr)
 | y, nr, (a, s) :: ss =>
  let (l,u,nr):=dH gd deps nb y nr s
  let (ls,us,nr):=jA gd deps nb (y+mZ s) nr ss
  ((a,l)::ls,u++us,nr)
def lU (ptrs:List (Nat×Nat×Nat))(deps:List (Nat×Nat)):Nat->Nat->Nat->List (Bool×List (BS×BO))->RdM (List (Nat×aS))
 |_,y,nr,[]=>.ret []
 | b, y, nr, (ro, cs) :: r =>
  bif ro then lU ptrs deps (b+1) y nr r else
  match oJ b ptrs with
  | some (c, off) => do
   match <- rdK (kB c) with
   | some (.box false ls) => do
    let (ns,us,nr):=dO deps y nr (cs.map (·.2))
    let rest <- lU ptrs deps (b+1) (y+cs.length) nr r
    .ret ((kB c,.box false (setRange ls off ns))::us++rest)
   |_=>.no
  |none=>.no
def zR:Nat->Nat->List RT->RdM (List Step×List (Nat×aS))
 |_,_,[]=>.ret ([],[])
 | y, nv, .mu r d q X :: rest => do
  match <- rdK (kR r) with
  | some (.root _ m v .live) => do
   let (l,X'):=Nab nv X q (.v y)
   let (ls,us) <- zR (y+1) (nv+bH l) rest
   .ret ((bif Nat.beq (q.length+d) m then [] else [.prim (.dep d) [.v y] 0])++(l++ls),(kR r,.root X' m (v+1) .live)::us)
  |_=>.no
 |y,nv,_::rest=>zR y nv rest
def gG:List RT->List (Nat×aS)
 |[]=>[]
 |.own r _::rest=>(kR r,.root (.c .hole) 0 0 .gone)::gG rest
 |_::rest=>gG rest
def eB:List (Bool×List (BS×BO))->Nat
 |[]=>0
 |(ro,cs)::r=>(bif ro then 0 else cs.length)+eB r
def nS:Nat->List BO->List Step
 |_,[]=>[]
 |y,.ow m::r=>.prim (.dep m) [.v y] 0::nS (y+1) r
 |y,_::r=>nS (y+1) r
def Ta8:Nat->List LR->List Step
 |_,[]=>[]
 |y,.ow m::r=>.prim (.dep m) [.v y] 0::Ta8 (y+1) r
 |y,.bx cs::r=>nS y cs++Ta8 (y+cs.length) r
 |y,_::r=>Ta8 (y+1) r
def Cb3:Nat->List (Bool×List LR)->List Step
 |_,[]=>[]
 |y,(_,ss)::r=>Ta8 y ss++Cb3 (y+mZ ss) r
def Cb4:Nat->List RT->List Step
 |_,[]=>[]
 |y,.mu _ d _ _::r=>.prim (.dep d) [.v y] 0::Cb4 (y+1) r
 |y,_::r=>Cb4 y r
def Yay:Nat->List (Bool×List (BS×BO))->List Step
 |_,[]=>[]
 |y,(ro,cs)::r=>bif ro then Yay y r else nS y (cs.map (·.2))++Yay (y+cs.length) r
def wP:RT->Bool
 |.mu _ _ _ _=>true
 |_=>false
def kL:List (BS×BO)->List aR->RdM (List aK)
 |[],_=>.ret []
 | (s, o) :: ss, l :: ls => do
  let x <- (match s,o,l with
   |.sc,.sc,.sc x=>RdM.ret x
   | .fz _, .fz, l => do
    let r <- yB l
    RdM.ret r.x
   |_,.dead,l=>bif Oa5 l then .ret (.c .hole) else .no
   |_,_,_=>.no)
  let r <- kL ss ls
  .ret (x::r)
 |_::_,[]=>.no
def iQ (ptrs:List (Nat×Nat×Nat)):Nat->List (Bool×List (BS×BO))->RdM (List aK)
 |_,[]=>.ret []
 | b, (ro, cs) :: r =>
  bif ro then iQ ptrs (b+1) r else
  match oJ b ptrs with
  | some (c, off) => do
   match <- rdK (kB c) with
   | some (.box false ls) => do
    let l <- kL cs (ls.drop off)
    let m <- iQ ptrs (b+1) r
    .ret (l++m)
   |_=>.no
  |none=>.no
def Bat (g:Option (aK×Bool)):List (Bool×List aR)->SV
 |[(false,[.sc x])]=>mkS g x
 |[(false,[l])]=>.one l
 |[(true,ls)]=>.agg ls
 |rs=>.tup rs
def Gba (g:Option (aK×Bool)):SV->Option (aK×Bool)
 |.one (.su _ _)=>none
 |_=>g
def Ibo (nv nb nr:Nat)(o:Oper)(g:Option (aK×Bool))(f:Nat)(vs:List SV):RdM bN:=do
 match Iaz f vs E.sigs with
 |none=>.no
 | some (key, s) => do
  let T <- eZ g Take.empty s.params vs
  let T <- eQ T.ptrs T 0 s.boxes
  bL (Zah s T&&Nat.ble (kQ s.results) 1&&(noG g||(T.rts.isEmpty&&Nat.beq (kQ s.results) 0)))
  let nres:=bK s.results
  let nmu:=(T.rts.filter wP).length
  let total:=nres+nmu+eB s.boxes
  let y0:=nv+bH T.lets
  let (rs,us,xF):=jA (!noG g) T.deps nb y0 nr s.results
  let bu <- lU T.ptrs T.deps 0 (y0+nres+nmu) xF s.boxes
  let chk:=bif T.deps.isEmpty then [] else Cb3 y0 s.results++Cb4 (y0+nres) T.rts++Yay (y0+nres+nmu) s.boxes
  let (ml,mu) <- zR (y0+nres) (y0+total) T.rts
  let olds <- (match g with
   |none=>RdM.ret []
   |some _=>iQ T.ptrs 0 s.boxes)
  let v:=Bat g rs
  .ret ⟨T.lets++[.call key (T.xs) total olds]++chk++ml,(match o.dst with|some d=>[(kT d,.slot (Gba g v) v)]|none=>[])++(us++bu++mu++gG T.rts)⟩
def zP (g:Option (aK×Bool)):List Operand->List TypeId->RdM (List SV)
 |[],_=>.ret []
 | x :: xs, ts => do
  let v <- Pa1 E g (ts.headD 0) x
  let l <- zP g xs ts.tail
  .ret (v::l)
def Sbx:Option IntKind->Bool
 |some k=>Rb5 k .u8
 |none=>false
def Lat:Operand->Bool
 |.const (.slice none _ _)=>true
 |_=>false
def Vax:Operand->Bool
 |.const (.pointer none)=>true
 |_=>false
def Rbx (nv:Nat)(o:Oper)(g:Option (aK×Bool))(neg:Bool)(t:TypeId)(x y:Operand):RdM bN:=do
 let a <- Pa1 E g t x
 let b <- Pa1 E g t y
 match a,b with
 | .agg ls, .agg ms => do
  let ti <- tiR E t
  match atoms ls,atoms ms with
  | some xs, some ys => do
   bL (ti.cmp&&Nat.beq xs.length ti.size&&Nat.beq ys.length ti.size)
   let d:=match o.dst with|some d=>[(kT d,aS.slot none (mkS g (.v (bif neg then nv+1 else nv))))]|none=>[]
   .ret ⟨[.prim (.eqs (ti.cells.map Fam)) (xs++ys) 1]++(bif neg then [.prim .not [.v nv] 1] else []),d⟩
  |_,_=>.no
 | .one l, .one m => do
  let ti <- tiR E t
  match uX g l,uX g m with
  | some p, some q => do
   bif ti.isBool then tT o g nv (.eqb neg) [p,q] else tT o g nv (.bin (bif neg then .neq else .eql)) [p,q]
  |_,_ =>
  let res (p:aT) (x:aK):RdM bN :=
   .ret ⟨[.prim p [x] 1]++(bif neg then [.prim .not [.v nv] 1] else []),match o.dst with|some d=>[(kT d,aS.slot none (mkS g (.v (bif neg then nv+1 else nv))))]|none=>[]⟩
  bif Lat y then do
   bL ti.elem.isSome
   let s <- yB l
   let r <- res .emp s.x
   .ret (bif s.nie then r else ⟨.prim .ne [s.x] 0::r.lets,r.upd⟩)
  else bif Vax y then do
   bL ti.isPtr
   match l with
   | .rp deps sz x => do
    let _ <- vX deps
    res .emp x
   |.pn=>tT o g nv .id [.c (.bool (!neg))]
   |.px _ _=>tT o g nv .id [.c (.bool neg)]
   |.pe _ _ _ _=>tT o g nv .id [.c (.bool neg)]
   |_=>.no
  else .no
 |_,_=>.no
def Kal:List CK->Option (List D)
 |[]=>some []
 |.sc z::r=>(Kal r).map (z::·)
 |.sl sz::r=>(Kal r).map (.rows sz []::·)
 |_::_=>none
def Kan (ei:TI)(lo:Bool)(s:SlR):Pth×Bool :=
 let one (m:Nat):Pth×Bool:=bif Nat.beq m 1||!lo then (.view,false) else bif Oal ei.cells then (.view,true) else (.no,false)
 match s.own with
 |some (_,_,m,.path [])=>one m
 |some (_,_,m,.view)=>one m
 |_=>(.no,false)
def Jbl (p:Pth)(sz:Nat)(lo:aK)(s:SlR):Pth :=
 match p,s.own with
 |.no,some (_,_,_,.path [])=>.suf sz lo
 |p,_=>p
def Saq (nv:Nat)(o:Oper)(ei:TI)(l:aR):RdM bN:=do
 let s <- yB l
 match s.own with
 | some (r, k, m, .suf sz lo) => do
  bL (Nat.beq sz 1&&Nat.beq ei.size 1&&Nat.ble 1 m)
  match <- rdK (kR r) with
  |some (.root X m' bc .live)=>.ret ⟨[.prim (.clr 1) [X,lo] 1],(match o.dst with | some d=>[(kT d,.slot none .dead)] | none=>[])++[(kR r,.root (.v nv) m' (bc+1) .live)]⟩
  |_=>.no
 |_=>.no
def qD (mv dq:Bool)(nv nb nr:Nat)(g:Option (aK×Bool))(o:Oper):RdM bN :=
 match o.op with
 |.move x | .assign x=>do Abi o g nv (<- Pa1 E g o.type x)
 | .pick c a b => do
  let c <- rdA E g 0 c
  let a <- Laa E g (c,true) o.type a
  let b <- Laa E g (c,false) o.type b
  tT o g nv .pick [c,a,b]
 | .alloc e => do
  let ti <- tiR E e
  bL (noG g)
  tV o g [] (.one (.px nb 0)) [(kB nb,.box false (ti.cells.map fH))]
 | .box e x => do
  let ti <- tiR E e
  let v <- Pa1 E g e x
  match jY ti.agg v with
  | some ls => do
   bL (Nat.beq ls.length ti.size&&noG g&&ls.all Oa5)
   tV o g [] (.one (.px nb 0)) [(kB nb,.box false ls)]
  |none=>.no
 | .build t parts => do
  let ti <- tiR E t
  bL ti.agg
  let ps <- Dax E g (fun i=>(ti.flds.getD i (0,0)).2) parts.toList
  match sK ti.flds E.ti (ti.cells.map fH) ps with
  |some ls=>tV o g [] (.agg ls) []
  |none=>.no
 | .buildSlice t len parts => do
  let st <- tiR E t
  let e <- nN st.elem
  let ti <- tiR E e
  let ps <- Dax E g (fun _=>e) parts.toList
  bL (Nat.ble (len*ti.size) 4096&&Ac8 0 ti.size&&Ac8 (len*ti.bytes) 4096)
  match Cav ti len (Gbb (ti.cells.map fH) len) ps with
  | some ls => do
   let pu <- rY mv dq 0 ls
   bL (noG g||(pu.moves.isEmpty&&pu.holes.isEmpty&&pu.frz.isEmpty))
   let fr <- dQ pu.frz
   bL (distinct (pu.moves.map (·.2.1))&&!(pu.moves.any fun z=>has pu.frz z.2.1)&&pu.holes.isEmpty)
   bif noG g then
    tV o g [.prim (.mk ti.size len) pu.xs 1] (.one (.ex nr))
     ((kR nr,.root (.v nv) (min big (pu.depth+1)) 0 .live)::(pu.moves.map fun z=>(kR z.2.1,.root (.c .hole) 0 0 .gone))++fr)
   else tV o g [.prim (.mk ti.size len) pu.xs 1] (.one (.sn [] .no false (.v nv))) []
  |none=>.no
 | .load t a => do
  let ti <- tiR E t
  Uat nv o g ti (<- rdL E g 0 a)
 | .store t a x => do
  let ti <- tiR E t
  let p <- rdL E g 0 a
  let v <- Pa1 E g t x
  match jY ti.agg v with
  |some ls=>Dao nv mv dq o g ti p ls
  |none=>.no
 | .nilCheck x => do
  match <- rdL E g 0 x with
  | .rp deps sz y => do
   let ds <- vX deps
   tV o g [.prim .ne [y] 0] (.one (.pe (.sn ds .no false y) sz (.c (.int .i64 0)) 0)) []
  |.px b off=>tV o g [] (.one (.px b off)) []
  |.pe l sz i off=>tV o g [] (.one (.pe l sz i off)) []
  |.clo f cs=>tV o g [] (.one (.clo f cs)) []
  |.pn=>tV o g [.prim .ne [.c (.rows 0 [])] 0] (.one (.pe (.sn [] .no false (.c (.rows 0 []))) 0 (.c (.int .i64 0)) 0)) []
  |_=>.no
 |.binOp .eql t x y _=>Rbx E nv o g false t x y
 |.binOp .neq t x y _=>Rbx E nv o g true t x y
 | .binOp op t x y ty => do
  let a <- rdA E g t x
  let b <- rdA E g ty y
  tT o g nv (.bin op) [a,b]
 | .unOp op _ x => do
  let a <- rdA E g 0 x
  match op with
  |.not=>tT o g nv .not [a]
  |.neg=>tT o g nv .neg [a]
  |.xor=>tT o g nv .inv [a]
  |_=>.no
 | .convert src dst x => do
  let s <- tiR E src
  let d <- tiR E dst
  match d.ik with
  | some k => do
   bL s.ik.isSome
   let a <- rdA E g src x
   tT o g nv (.conv k) [a]
  | none =>
   bif d.isStr then
    bif s.isStr then do
     let a <- rdA E g src x
     tT o g nv .sid [a]
    else do
     let e <- nN s.elem
     let ei <- tiR E e
     bL (Sbx ei.ik)
     let r <- yB (<- rdL E g src x)
     tT o g nv .bstr [r.x]
   else .no
 | .makeFunc (.func f) first fj => do
  bL first.isEmpty
  let vs <- zP E g fj.toList []
  let ls <- nN (uZ vs)
  tV o g [] (.one (.clo f ls)) []
 | .makeSlice t l c => do
  let st <- tiR E t
  let e <- nN st.elem
  let ti <- tiR E e
  bL (noG g)
  let a <- rdA E g 0 l
  let b <- rdA E g 0 c
  bL (a.beq0 b&&Ac8 0 ti.size&&Ac8 0 ti.bytes)
  let zs <- nN (Kal ti.cells)
  tV o none [.prim (.make ti.bytes zs) [a] 1] (.one (.ex nr)) [(kR nr,.root (.v nv) big 0 .live)]
 | .slice t x lo hi mx => do
  let ti <- tiR E t
  match mx with
  |some _=>.no
  | none => do
   let l <- rdL E g t x
   let wA <- (match lo with|some a=>rdA E g 0 a|none=>RdM.ret (.c (.int .i64 0)))
   match l with
   | .sc s => do
    bL (ti.isStr&&(noG g||hi.isSome))
    match hi with
    | some h => do
     let h <- rdA E g 0 h
     tT o g nv .ssub [s,wA,h]
    | none =>
     .ret ⟨[.prim .slen [s] 1,.prim .ssub [s,wA,.v nv] 1],match o.dst with|some d=>[(kT d,.slot none (mkS g (.v (nv+1))))]|none=>[]⟩
   | l => do
    bL ti.elem.isSome
    let s <- yB l
    let ei <- tiR E (ti.elem.getD 0)
    let (p,fl):=Kan ei lo.isSome s
    match hi with
    | some h => do
     let h <- rdA E g 0 h
     match l with
     |.sn _ _ true (.c (.rows z []))=>tV o g [.prim (.sub ei.size fl) [s.x,wA,h] 1] (.one l) []
     |_=>tV o g [.prim (.sub ei.size fl) [s.x,wA,h] 1] (.one (.sn s.deps p false (.v nv))) []
    | none =>
     tV o g [.prim .len [s.x] 1,.prim (.sub ei.size fl) [s.x,wA,.v nv] 1] (.one (.sn s.deps (Jbl p ei.size wA s) false (.v (nv+1)))) []
 | .fieldAddr t x f => do
  let ti <- tiR E t
  match ti.flds[f]? with
  | some (off, ft) => do
   let fi <- tiR E ft
   bL (Ac8 0 fi.size)
   Sap o g off (<- rdL E g 0 x)
  |none=>.no
 | .field t x f => do
  let ti <- tiR E t
  match ti.flds[f]? with
  | some (off, ft) => do
   let fi <- tiR E ft
   match <- Pa1 E g t x with
   | .agg ls => do
    bL (Nat.ble (off+fi.size) ls.length&&Nat.beq ls.length ti.size)
    match Uaz fi.agg ((ls.drop off).take fi.size) with
    |some v=>Abi o g nv v
    |none=>.no
   |_=>.no
  |none=>.no
 | .indexAddr t x i => do
  let ti <- tiR E t
  let e <- nN ti.elem
  let ei <- tiR E e
  let l <- rdL E g t x
  let s <- yB l
  let a <- rdA E g 0 i
  bL (Ac8 0 ei.size)
  tV o g [.prim .inb [s.x,a] 0] (.one (.pe l ei.size a 0)) []
 | .index t x i => do
  let ti <- tiR E t
  bL ti.isStr
  let s <- rdA E g t x
  let a <- rdA E g 0 i
  tT o g nv .sidx [s,a]
 | .extract x i => do
  match <- Pa1 E g 0 x with
  | .tup vs => match vs[i]? with
   | some (a, ls) => match Uaz a ls with
    |some v=>Abi o g nv v
    |none=>.no
   |none=>.no
  |_=>.no
 | .call { callee := .builtin b, args, argTypes } => do
  match b,args.toList with
  | .len, [x] => do
   let t <- nN argTypes[0]?
   let ti <- tiR E t
   let l <- rdL E g t x
   match uX g l with
   | some a => do
    bL ti.isStr
    tT o g nv .slen [a]
   | none => do
    bL ti.elem.isSome
    let s <- yB l
    tT o g nv .len [s.x]
  | .append, [x, y] => do
   let t <- nN argTypes[0]?
   let ty <- nN argTypes[1]?
   let ti <- tiR E t
   let e <- nN ti.elem
   let ei <- tiR E e
   let yi <- tiR E ty
   bL (yi.elem.isSome&&Ac8 0 ei.size&&noG g&&Ac8 0 ei.bytes&&Nat.beq argTypes.size 2)
   Maj nv nr mv dq o ei (<- rdL E g t x) (<- rdL E g ty y)
  | .clear, [x] => do
   let t <- nN argTypes[0]?
   let ti <- tiR E t
   let e <- nN ti.elem
   let ei <- tiR E e
   bL (noG g&&Nat.beq argTypes.size 1)
   Saq nv o ei (<- rdL E g t x)
  | .min, xs => do
   let vs <- zP E g xs argTypes.toList
   let as <- nN ((uZ vs).bind (Jas g))
   tT o g nv .min as
  | .max, xs => do
   let vs <- zP E g xs argTypes.toList
   let as <- nN ((uZ vs).bind (Jas g))
   tT o g nv .max as
  |_,_=>.no
 | .call { callee := .value f, args, argTypes } => do
  match <- rdL E g 0 f with
  | .clo fn fj => do
   let vs <- zP E g args.toList argTypes.toList
   Ibo E nv nb nr o g fn (vs++fj.map .one)
  |_=>.no
 |_=>.no
end
def kD {α:Type}(n:Nat):Option α:=none
structure St where
 tr:Tr aS
 nv:Nat
 nb:Nat
 nr:Nat
 nt:Nat
 deriving Inhabited
def vG (nt nb nr k:Nat):Bool :=
 bif Nat.beq (k % 3) 0 then Ac8 (k / 3) nt else bif Nat.beq (k % 3) 1 then Ac8 (k / 3) nb else Ac8 (k / 3) nr
def St.get (s:St)(k:Nat):Option aS:=bif vG s.nt s.nb s.nr k then s.tr.get k else none
def bA (n:Nat):aK->Bool
 |.v i=>Ac8 i n
 |.c _=>true
def Dar (n:Nat):Step->Bool
 |.prim _ xs _=>xs.all (bA n)
 |.call _ xs k olds=>xs.all (bA n)&&olds.all (bA n)&&Nat.ble olds.length k
def eF:Nat->List Step->Bool
 |_,[]=>true
 |n,s::r=>Dar n s&&eF (n+s.n) r
def oW (n:Nat):Option (aK×Bool)->Bool
 |none=>true
 |some (x,_)=>bA n x
def St.put (s:St)(k:Nat)(c:Option aS):St:={ s with tr:=s.tr.set 16 k c }
def St.puts (s:St):List (Nat×aS)->St
 |[]=>s
 |(k,c)::r=>(s.put k (some c)).puts r
def Ma3 (ops:List Oper)(o:Oper):RdM (Option (aK×Bool)) :=
 match o.guard with
 |none=>.ret none
 | some (j, want) =>
  match (ops[j]?).bind (·.dst) with
  | some d => .rd (kT d) fun
   |some (.slot none (.one (.sc x)))=>.ret (some (x,want))
   |some (.slot none (.one (.su _ x)))=>.ret (some (x,want))
   |_=>.no
  |none=>.no
def bU:Nat:=16
def zB (n nb nr k:Nat):Bool :=
 bif Nat.beq (k % 3) 0 then Ac8 (k / 3) n else bif Nat.beq (k % 3) 1 then Nat.ble (k / 3) nb else Ac8 (k / 3) (nr+bU)
def Xay:List (Nat×aS)->Nat->Option aS
 |[],_=>none
 | (k', c) :: r, k => match Xay r k with
  |some d=>some d
  |none=>bif Nat.beq k' k then some c else none
def RdM.over {α:Type}(u:List (Nat×aS)):RdM α->RdM α
 |.ret a=>.ret a
 |.no=>.no
 | .rd k f => match Xay u k with
  |some c=>(f (some c)).over u
  |none=>.rd k fun c=>(f c).over u
def Baf:Bool->Op->Option Nat
 |true,.store _ _ (.tmp t)=>some t
 | true, .buildSlice _ _ parts => match parts.toList with
  |[(_,.tmp t)]=>some t
  |_=>none
 |_,_=>none
def Nae:Bool->Oper->Option Nat
 | true, o => match o.op with
  |.load _ _=>o.dst
  |_=>none
 |false,_=>none
def Kaw (E:Env)(nv nr t:Nat):RdM (Option (List Step×List (Nat×aS))):=do
 match <- rdK (kT t) with
 | some (.slot none (.one (.sn deps (.path (p :: ps)) nie x))) => do
  let s <- yB (.sn deps (.path (p::ps)) nie x)
  match s.own with
  | some (r, k, m, .path (q :: qs)) =>
   bif Nat.ble (qs.length+2) m&&Ac8 t E.ntmps then do
    match <- rdK (kR r) with
    | some (.root X m' bc .live) =>
     let (l,X'):=Nab nv X (q::qs) (.c .hole)
     .ret (some (l,[(kT t,.slot none (.one (.ex nr))),(kR nr,.root s.x (m-(qs.length+1)) 0 .live),(kR r,.root X' m (bc+1) .live)]))
    |_=>.ret none
   else .ret none
  |_=>.ret none
 |_=>.ret none
def Wa7 (E:Env)(mv dq:Bool)(nv nb nr:Nat)(g:Option (aK×Bool))(o:Oper):RdM bN :=
 match Baf (dq&&noG g) o.op with
 | none => match Nae (dq && noG g && !mv) o with
  |none=>qD E mv dq nv nb nr g o
  | some t => do
   let r <- qD E mv dq nv nb nr g o
   match <- (Kaw E (nv+bH r.lets) nr t).over r.upd with
   |some (l,u)=>.ret ⟨r.lets++l,r.upd++u⟩
   |none=>.ret r
 | some t => do
  match <- Kaw E nv nr t with
  | some (l, u) => do
   let r <- (qD E mv false (nv+bH l) nb (nr+1) g o).over u
   .ret ⟨l++r.lets,u++r.upd⟩
  |none=>qD E mv false nv nb nr g o
def lH (E:Env)(ops:List Oper)(mv dq:Bool)(nv nb nr:Nat)(o:Oper):RdM (Option (aK×Bool)×bN):=do
 let g <- Ma3 ops o
 bL (match o.dst with|some d=>Ac8 d E.ntmps|none=>true)
 let r <- Wa7 E mv dq nv nb nr g o
 bL (r.upd.all fun x=>zB E.ntmps nb nr x.1)
 .ret (g,r)
structure OpI where
 g:Option (aK×Bool)
 res:bN
 log:List Nat
 nb:Nat
 nr:Nat
 deriving Inhabited
def nJ (t:Tr aS)(r:Nat):Nat->Bool
 |0=>true
 |n+1=>(t.get (kR r)).isNone&&nJ t (r+1) n
def Ba1 (n:Nat):Pth->Bool
 |.path p=>p.all fun x=>bA n x.1
 |.suf _ x=>bA n x
 |_=>true
mutual
def aR.inScope (n:Nat):aR->Bool
 |.sc x=>bA n x
 |.su g x=>bA n x&&bA n g.1
 |.sn _ p _ x=>bA n x&&Ba1 n p
 |.pe l _ i _=>l.inScope n&&bA n i
 |.rp _ _ x=>bA n x
 |.clo _ l=>bE n l
 |_=>true
def bE (n:Nat):List aR->Bool
 |[]=>true
 |a::r=>a.inScope n&&bE n r
end
def xX (n:Nat):SV->Bool
 |.dead=>true
 |.one l=>l.inScope n
 |.agg ls=>bE n ls
 |.tup vs=>vs.all fun v=>bE n v.2
def bW (n:Nat):aS->Bool
 |.slot g v=>oW n g&&xX n v
 |.box _ ls=>bE n ls
 |.root x _ _ _=>bA n x
def Gbj (s:St)(g:Option (aK×Bool))(r:bN):Bool :=
 (s.tr.get (kB s.nb)).isNone&&nJ s.tr s.nr bU&&oW s.nv g&&eF s.nv r.lets&&r.upd.all fun x=>bW (s.nv+bH r.lets) x.2
def Lbl:List (Nat×aS)->Nat->Nat
 |[],n=>n
 |x::r,n=>Lbl r (bif Nat.beq (x.1 % 3) 2&&Nat.ble n (x.1 / 3) then x.1 / 3+1 else n)
def Ta9 (draw:Bool)(n:Nat)(u:List (Nat×aS)):Nat:=bif draw then n+bU else Lbl u n
def Oas (t:Tr aS)(lo:Nat):Nat->Nat
 |0=>lo
 |n+1=>bif (t.get (kR (lo+n))).isNone then Oas t lo n else lo+n+1
def trimS (draw:Bool)(lo:Nat)(s:St):St:=bif draw&&Nat.ble lo s.nr then { s with nr:=Oas s.tr lo (s.nr-lo) } else s
def Sby (l:List (Nat×Nat))(r i:Nat):Bool:=l.any fun p=>Nat.beq p.1 r&&Nat.beq p.2 i
def Zaj (E:Env)(draw:Bool)(jy:Nat)(ops:List Oper):Nat->List Oper->St->List OpI->Sum (List OpI×St) (Nat×St×List OpI)
 |_,[],s,acc=>.inl (acc.reverse,s)
 | i, o :: os, s, acc =>
  let fl:=Sby E.nomv jy i
  match (lH E ops (xor (!E.freezeEx) fl) (xor E.moveSn fl) s.nv s.nb s.nr o).run s.get with
  | some ((g, r), log) =>
   bif !(Gbj s g r) then .inr (i,s,acc) else Zaj E draw jy ops (i+1) os { (s.puts r.upd) with nv:=s.nv+bH r.lets,nb:=s.nb+1,nr:=Ta9 draw s.nr r.upd } ({ g,res:=r,log,nb:=s.nb,nr:=s.nr }::acc)
  |none=>.inr (i,s,acc)
def Aab (acc:List Nat):List Edge->Nat->Nat
 |[],m=>m
 |e::es,m=>Aab acc es (bif Region.binds .any e then (m ||| 2 ^ e.on) ||| acc.getD e.on 0 else m)
def waits:List Oper->List Nat->List Nat
 |[],acc=>acc
 |o::os,acc=>waits os (acc++[Aab acc o.after.toList 0])
def Caz:List Oper->Nat->Bool
 |[],_=>true
 |o::os,i=>(o.after.toList.all fun e=>!(Region.binds .any e)||Ac8 e.on i)&&Caz os (i+1)
def Nap (a:OpI)(k:Nat):Bool:=bif Nat.beq (k % 3) 1 then Nat.beq (k / 3) a.nb else bif Nat.beq (k % 3) 2 then Nat.ble a.nr (k / 3)&&Ac8 (k / 3) (a.nr+bU) else false
def qU (a b:OpI):Bool :=
 let wa:=a.res.upd.map (·.1)
 let wb:=b.res.upd.map (·.1)
 !(meets wa b.log)&&!(meets wa wb)&&!(meets a.log wb)&&!(wb.any (Nap a))
def Cao (a:OpI)(i:Nat):List OpI->List Nat->Bool
 |[],_=>true
 |b::bs,w::ws=>(Bc6 w i||qU a b)&&Cao a i bs ws
 |_::_,[]=>false
def wG:List OpI->List Nat->Nat->Bool
 |[],_,_=>true
 |a::as,ws,i=>Cao a i as ws.tail&&wG as ws.tail (i+1)
def oG (g:Option (aK×Bool))(k:Tm St):List Step->Tm St
 |[]=>k
 |.prim p xs n::r=>.lt g p xs n (oG g k r)
 |.call f xs n olds::r=>.call g f xs n olds (oG g k r)
def Hac (k:Tm St):List OpI->Tm St
 |[]=>k
 |a::r=>oG a.g (Hac k r) a.res.lets
def Mai (E:Env)(p7:Bool)(jy:Nat)(ops:List Oper)(draw:Bool)(s:St):Tm St :=
 match Zaj E draw jy ops 0 ops s [] with
 | .inl (is, s') =>
  bif !draw||(Caz ops 0&&wG is (waits ops []) 0) then Hac (.leaf .fall [] (trimS draw s.nr s')) is
  else bif p7 then .leaf (.exit (1000000+jy*1000+999)) [] s else .stuck
 |.inr (i,s',is)=>bif p7 then .leaf (.exit (1000000+jy*1000+i)) [] s' else .stuck
def Abl:Operand->Nat
 |.tmp t=>2 ^ t
 |_=>0
def Gbh (o:Oper):Nat:=o.op.operands.toList.foldl (fun m x=>m ||| Abl x) 0
def Abz:List Oper->Nat->Nat
 |[],l=>l
 | o :: os, l =>
  let m:=Abz os l
  let m:=match o.dst,o.guard with
   |some d,none=>bif Bc6 m d then m-2 ^ d else m
   |_,_=>m
  m ||| Gbh o
def Va8:List (Nat×Nat)->Nat->Nat
 |[],_=>0
 |(i,m)::r,j=>bif Nat.beq i j then m else Va8 r j
def Ja8:Code->List (Nat×Nat)->Nat->Nat->Nat
 |.region _ ops _,_,_,l=>Abz ops.toList l
 |.seq a b,ex,rb,l=>Ja8 a ex rb (Ja8 b ex rb l)
 |.cond c a b,ex,rb,l=>Abl c ||| Ja8 a ex rb l ||| Ja8 b ex rb l
 |.block id b,ex,rb,l=>Ja8 b ((id,l)::ex) rb l
 |.loop b,ex,rb,_=>Ja8 b ex rb (Ja8 b ex rb (Ja8 b ex rb 0))
 |.exit id,ex,_,_=>Va8 ex id
 |.ret,_,rb,_=>rb
 |_,_,_,l=>l
inductive Form where
 |sc
 |nil (z:Nat)
 |ex (m:Nat)
 |sn
 |pn
 |rp (z:Nat)
 |keep (l:aR)
 |alias (i:Nat)
 |dead
 deriving Inhabited
def Lac:List (aK×Nat×Nat)->List (aK×Nat×Nat)->Bool
 |[],[]=>true
 |(a,b,c)::r,(a',b',c')::r'=>a.beq0 a'&&Nat.beq b b'&&Nat.beq c c'&&Lac r r'
 |_,_=>false
def Pth.beq0:Pth->Pth->Bool
 |.no,.no=>true
 |.view,.view=>true
 |.path p,.path q=>Lac p q
 |.suf a x,.suf b y=>Nat.beq a b&&x.beq0 y
 |_,_=>false
def xB:List (Nat×Nat)->List (Nat×Nat)->Bool
 |[],[]=>true
 |(a,b)::r,(a',b')::r'=>Nat.beq a a'&&Nat.beq b b'&&xB r r'
 |_,_=>false
mutual
def aR.beq0:aR->aR->Bool
 |.dead,.dead=>true
 |.sc x,.sc y=>x.beq0 y
 |.su g x,.su h y=>g.1.beq0 h.1&&(g.2==h.2)&&x.beq0 y
 |.ex r,.ex r'=>Nat.beq r r'
 |.sn d p n x,.sn d' p' n' x'=>xB d d'&&p.beq0 p'&&(n==n')&&x.beq0 x'
 |.px b o,.px b' o'=>Nat.beq b b'&&Nat.beq o o'
 |.pe l s i o,.pe l' s' i' o'=>l.beq0 l'&&Nat.beq s s'&&i.beq0 i'&&Nat.beq o o'
 |.rp d s x,.rp d' s' x'=>xB d d'&&Nat.beq s s'&&x.beq0 x'
 |.pn,.pn=>true
 |.clo f l,.clo f' l'=>Nat.beq f f'&&sF l l'
 |_,_=>false
def sF:List aR->List aR->Bool
 |[],[]=>true
 |a::r,b::s=>a.beq0 b&&sF r s
 |_,_=>false
end
def Bas (a b:RSt):Bool:=decide (a=b)
def Vab (nv:Nat)(r:Nat):List St->Bool
 |[]=>true
 | s :: rest => match s.get (kR r) with
  | some (.root x m v st) => bA nv x && rest.all fun s' => match s'.get (kR r) with
   |some (.root x' m' v' ve)=>x.beq0 x'&&Nat.beq m m'&&Nat.beq v v'&&Bas st ve
   |_=>false
  |_=>false
mutual
def Cag:aR->List Nat
 |.ex r=>[r]
 |.sn d _ _ _=>d.map (·.1)
 |.rp d _ _=>d.map (·.1)
 |.pe l _ _ _=>Cag l
 |.clo _ l=>Ha7 l
 |_=>[]
def Ha7:List aR->List Nat
 |[]=>[]
 |a::r=>Cag a++Ha7 r
end
def Bbz (s:St):aR->Form
 |.sc _=>.sc
 | .ex r => match s.get (kR r) with
  |some (.root _ m _ .live)=>.ex m
  |some (.root _ _ _ .frozen)=>.sn
  |_=>.dead
 |.sn _ _ true (.c (.rows z []))=>.nil z
 | .sn d p _ _ => match p, d with
  | .view, [(r, k)] => match s.get (kR r) with
   |some (.root _ m v .live)=>bif Nat.beq v k then .ex m else .dead
   |some (.root _ _ _ .frozen)=>.sn
   |_=>.dead
  |_,_=>.sn
 |.pn=>.pn
 |.rp _ z _=>.rp z
 |.pe _ z _ o=>bif Nat.beq o 0 then .rp z else .dead
 |_=>.dead
def Naj:Form->Form->Form
 |.sc,.sc=>.sc
 |.nil z,.nil _=>.nil z
 |.nil _,.ex m=>.ex m
 |.ex m,.nil _=>.ex m
 |.ex m,.ex m'=>.ex (min m m')
 |.nil _,.sn=>.sn
 |.sn,.nil _=>.sn
 |.ex _,.sn=>.sn
 |.sn,.ex _=>.sn
 |.sn,.sn=>.sn
 |.pn,.pn=>.pn
 |.pn,.rp z=>.rp z
 |.rp z,.pn=>.rp z
 |.rp z,.rp _=>.rp z
 |_,_=>.dead
def wO (k j:Nat)(s:St):aR :=
 match s.get k with
 |some (.slot none v)=>(tH v).getD j .dead
 |some (.box _ ls)=>ls.getD j .dead
 |_=>.dead
def Obv (nv k j:Nat)(ja:List St):Form :=
 match ja with
 |[]=>.dead
 | s :: rest =>
  let l:=wO k j s
  bif l.inScope nv&&rest.all (fun s'=>l.beq0 (wO k j s'))&&(Cag l).all (fun r=>Vab nv r (s::rest)) then .keep l
  else rest.foldl (fun f s'=>Naj f (Bbz s' (wO k j s'))) (Bbz s l)
def Obr:Form->Bool
 |.keep _=>true
 |_=>false
structure Pos where
 k:Nat
 j:Nat
 f:Form
 deriving Inhabited
def Zax:Option aS->Option aS->Bool
 |some (.slot none (.one _)),some (.slot none (.one _))=>true
 |some (.slot none (.agg a)),some (.slot none (.agg b))=>Nat.beq a.length b.length
 |some (.box r a),some (.box r' b)=>(r==r')&&Nat.beq a.length b.length
 |_,_=>false
def Kbw:Option aS->Nat
 |some (.slot none v)=>(tH v).length
 |some (.box _ ls)=>ls.length
 |_=>0
def Jb9 (old:List Pos)(k j:Nat):Option Form:=(old.find? fun p=>Nat.beq p.k k&&Nat.beq p.j j).map (·.f)
def Ib3 (s:St)(k j:Nat):Option Nat :=
 match wO k j s with
 |.ex r=>some r
 |_=>none
def Obs:Form->Bool
 |.ex _=>true
 |_=>false
def aliasOf (ja:List St)(k j:Nat):List Pos->Nat->Option Nat
 |[],_=>none
 | p :: ps, i =>
  bif Obs p.f&&ja.all fun s=>match Ib3 s k j,Ib3 s p.k p.j with
   |some r,some r'=>Nat.beq r r'
   |_,_=>false
  then some i else aliasOf ja k j ps (i+1)
def Abo:Form->Form
 |.alias _=>.ex 1000
 |f=>f
def Abf (nv:Nat)(ja:List St)(old:List Pos)(k:Nat):Nat->Nat->List Pos->List Pos
 |0,_,acc=>acc
 | n + 1, j, acc =>
  let f:=Obv nv k j ja
  let f:=match Jb9 old k j,f with
   | some f0, .keep l => match ja with
    |s::_=>Naj (Abo f0) (Bbz s l)
    |[]=>.dead
   |some f0,f=>Naj (Abo f0) f
   |none,f=>f
  let f:=bif Obs f then (match aliasOf ja k j acc 0 with|some i=>.alias i|none=>f) else f
  Abf nv ja old k n (j+1) (bif Obr f then acc else acc++[⟨k,j,f⟩])
def Kbg (ja:List St)(k:Nat):Bool :=
 match ja with
 |s::rest=>rest.all fun s'=>Zax (s.get k) (s'.get k)&&(match s.get k with | some (.slot (some _) _)=>false | some (.slot _ (.tup _))=>false | some (.slot _ .dead)=>false | some _=>true | none=>false)
 |[]=>false
def Kbf (ja:List St)(k:Nat):Bool :=
 match ja with
 |[s]=>Zax (s.get k) (s.get k)
 |_=>Kbg ja k
def range (a:Nat):Nat->List Nat
 |0=>[]
 |n+1=>a::range (a+1) n
def Nag (E:Env)(nb:Nat)(live:Nat)(ja:List St):List Nat :=
 ((range E.ntmps E.ngh).filter fun t=>Kbf ja (kT t)).map kT++((range 0 E.ntmps).filter fun t=>Bc6 live t&&Kbf ja (kT t)).map kT++((range 0 nb).filter fun b=>Kbf ja (kB b)).map kB
def Qaa (nv:Nat)(ja:List St)(old:List Pos):List Nat->List Pos->List Pos
  |[],acc=>acc
  | k :: ks, acc => Qaa nv ja old ks (match ja with
     |s::_=>Abf nv ja old k (Kbw (s.get k)) 0 acc
     |[]=>acc)
def Ibv (nv:Nat)(ja:List St)(old:List Pos)(ks:List Nat):List Pos:=Qaa nv ja old ks []
def Jbp (c:aS)(j:Nat)(l:aR):aS :=
 match c with
 |.slot g (.one _)=>.slot g (match l with | .dead=>.dead | l=>.one l)
 |.slot g (.agg ls)=>.slot g (.agg (ls.set j l))
 |.box ro ls=>.box ro (ls.set j l)
 |c=>c
def kI (nv nr:Nat):List Pos->Nat->St->St
 |[],_,s=>s
 | p :: ps, i, s =>
  let put (l:aR) (s:St):St:=match s.get p.k with
   |some c=>s.put p.k (some (Jbp c p.j l))
   |none=>s
  match p.f with
  |.sc=>kI nv nr ps (i+1) (put (.sc (.v (nv+i))) s)
  |.ex m=>kI nv nr ps (i+1) ((put (.ex (nr+i)) s).put (kR (nr+i)) (some (.root (.v (nv+i)) m 0 .live)))
  |.sn=>kI nv nr ps (i+1) (put (.sn [] .no false (.v (nv+i))) s)
  |.nil z=>kI nv nr ps (i+1) (put (.sn [] .no true (.v (nv+i))) s)
  |.rp z=>kI nv nr ps (i+1) (put (.rp [] z (.v (nv+i))) s)
  |.pn=>kI nv nr ps (i+1) (put .pn s)
  |.alias a=>kI nv nr ps (i+1) (put (.ex (nr+a)) s)
  |_=>kI nv nr ps (i+1) (put .dead s)
def Gb7 (s:St)(k j:Nat):List Nat :=
 match wO k j s with
 |.ex r=>[r]
 |.sn [(r,_)] .view _ _=>[r]
 |_=>[]
def Zbe:Form->Bool
 |.sn=>true
 |.rp _=>true
 |_=>false
def Zbf:Form->Bool
 |.ex _=>true
 |.alias _=>true
 |_=>false
def Pa7 (nv:Nat)(a8:List Pos)(ja:List St):List Nat->St->St
 |[],s=>s
 | r :: rs, s =>
  let taken:=a8.any fun p=>Zbf p.f&&ja.any fun s'=>has (Gb7 s' p.k p.j) r
  let froz:=a8.any fun p=>Zbe p.f&&ja.any fun s'=>has (Cag (wO p.k p.j s')) r
  let sameX:=match ja with
   | s0 :: rest => match s0.get (kR r) with
    | some (.root x m v st) => bA nv x && !(Bas st .gone) && rest.all fun s' => match s'.get (kR r) with
     |some (.root x' _ _ ve)=>x.beq0 x'&&!(Bas ve .gone)
     |_=>false
    |_=>false
   |[]=>false
  let c:Option aS :=
   bif taken then some (.root (.c .hole) 0 0 .gone)
   else bif Vab nv r ja&&!froz then (match ja with|s0::_=>s0.get (kR r)|[]=>none)
   else bif sameX then (match ja with|s0::_=>(match s0.get (kR r) with|some (.root x m v _)=>some (.root x m v .frozen)|c=>c)|[]=>none)
   else some (.root (.c .hole) 0 0 .gone)
  Pa7 nv a8 ja rs (s.put (kR r) c)
def Ma8 (s:St):List Nat->Tr aS->Tr aS
 |[],t=>t
 |k::ks,t=>Ma8 s ks (t.set 16 k (s.get k))
def template (E:Env)(nv nb nr fN:Nat)(ja:List St)(keys:List Nat)(a8:List Pos):St :=
 match ja with
 |[]=>⟨.nil,nv,nb,nr,0⟩
 | s :: _ =>
  let s1:St:=⟨Ma8 s keys .nil,nv+a8.length,nb,fN+a8.length,s.nt⟩
  kI nv fN a8 0 (Pa7 nv a8 ja (range 0 nr) s1)
def Vb2 (j:Nat)(l:aR):aS->Option aS
 |.slot none (.one _)=>bif Nat.beq j 0 then some (.slot none (.one l)) else none
 |.slot none (.agg ls)=>some (.slot none (.agg (ls.set j l)))
 |.box ro ls=>some (.box ro (ls.set j l))
 |_=>none
def putAt (k j:Nat)(l:aR)(s:St):St :=
 match (s.get k).bind (Vb2 j l) with
 |some c=>s.put k (some c)
 |none=>s
def Ma2 (E:Env)(p:Pos)(nr i:Nat)(s:St):Option (List Step×St×aK) :=
 let put (l:aR) (s:St):St:=putAt p.k p.j l s
 let rNew:=nr+i
 match p.f,wO p.k p.j s with
 |.sc,.sc x=>some ([],s,x)
 | .alias a, .ex r => match s.get (kR r) with
  |some (.root _ _ _ (.fwd r'))=>bif Nat.beq r' (nr+a) then some ([],put (.ex (nr+a)) s,.c .undef) else kD 5001
  |_=>kD 5002
 |.nil z,.sn [] .no true x=>some ([],s,x)
 | .ex m, .ex r => match s.get (kR r) with
  |some (.root x m' v .live)=>bif Nat.ble m m' then some ([],put (.ex rNew) (s.puts [(kR r,.root (.c .hole) 0 0 (.fwd rNew)),(kR rNew,.root x m 0 .live)]),x) else kD 5003
  |_=>kD 5004
 |.ex m,.sn [] _ true (.c (.rows z []))=>some ([],put (.ex rNew) (s.puts [(kR rNew,.root (.c (.rows z [])) m 0 .live)]),.c (.rows z []))
 | .ex m, .sn [(r, k)] .view _ x => match s.get (kR r) with
  |some (.root _ m' v .live)=>bif Nat.ble m m'&&Nat.beq v k then some ([],put (.ex rNew) (s.puts [(kR r,.root (.c .hole) 0 0 .gone),(kR rNew,.root x m 0 .live)]),x) else kD 5005
  |_=>kD 5006
 | .sn, l =>
  match ((do let s <- yB l;let fr <- dQ (s.deps.map (·.1));RdM.ret (s.x,fr):RdM (aK×List (Nat×aS)))).eval s.get with
  |some (x,fr)=>some ([],put (.sn [] .no false x) (s.puts fr),x)
  |none=>kD 5007
 |.rp z,.pn=>some ([],put (.rp [] z (.c (.rows z []))) s,.c (.rows z []))
 | .rp z, .rp deps z' x =>
  match ((do let d <- vX deps;dQ (d.map (·.1)):RdM (List (Nat×aS)))).eval s.get with
  |some fr=>some ([],put (.rp [] z x) (s.puts fr),x)
  |none=>kD 5008
 | .rp z, .pe l z' i 0 =>
  match ((do let s <- yB l;let fr <- dQ (s.deps.map (·.1));RdM.ret (s.x,fr):RdM (aK×List (Nat×aS)))).eval s.get with
  |some (x,fr)=>some ([.prim (.one z') [x,i] 1],{ (put (.rp [] z (.v s.nv)) (s.puts fr)) with nv:=s.nv+1 },.v s.nv)
  |none=>kD 5009
 |.pn,.pn=>some ([],s,.c .undef)
 |.dead,_=>some ([],s,.c .undef)
 |_,_=>kD (4000000+1000*p.k+p.j)
def jX (E:Env)(nr:Nat):List Pos->Nat->St->Option (List Step×St×List aK)
 |[],_,s=>some ([],s,[])
 | p :: ps, i, s => do
  let (l,s,x) <- Ma2 E p nr i s
  let (l',s,xs) <- jX E nr ps (i+1) s
  some (l++l',s,x::xs)
def iA (τ:St):List Nat->St->Option St
 |[],s=>some s
 | r :: rs, s =>
  match τ.get (kR r),s.get (kR r) with
  |some (.root _ _ _ .frozen),some (.root x m v .live)=>iA τ rs (s.put (kR r) (some (.root x m v .frozen)))
  |_,_=>iA τ rs s
def Oa4 (n:Nat)(xs:List aK):aK->aK
 |.v i=>bif Ac8 i n then .v i else xs.getD (i-n) (.c .hole)
 |.c d=>.c d
def Wb5 (n:Nat)(xs:List aK):Pth->Pth
 |.path p=>.path (p.map fun x=>(Oa4 n xs x.1,x.2))
 |.suf sz lo=>.suf sz (Oa4 n xs lo)
 |p=>p
def Ua0 (b6 du r:Nat):Nat:=bif Nat.ble b6 r then du+(r-b6) else r
mutual
def aR.sub (n:Nat)(xs:List aK)(b6 du:Nat):aR->aR
 |.sc x=>.sc (Oa4 n xs x)
 |.su g x=>.su (Oa4 n xs g.1,g.2) (Oa4 n xs x)
 |.ex r=>.ex (Ua0 b6 du r)
 |.sn d p e x=>.sn d (Wb5 n xs p) e (Oa4 n xs x)
 |.pe l s i o=>.pe (l.sub n xs b6 du) s (Oa4 n xs i) o
 |.rp d s x=>.rp d s (Oa4 n xs x)
 |.clo f l=>.clo f (iB n xs b6 du l)
 |l=>l
def iB (n:Nat)(xs:List aK)(b6 du:Nat):List aR->List aR
 |[]=>[]
 |a::r=>a.sub n xs b6 du::iB n xs b6 du r
end
def yL (a b:aR):Bool :=
 match a with
 |.dead=>Oa5 b
 | .sn d .no false x => match b with
  |.sn d' _ _ x'=>xB d d'&&x.beq0 x'
  |_=>false
 |a=>a.beq0 b
def dZ:List aR->List aR->Bool
 |[],[]=>true
 |a::r,b::s=>yL a b&&dZ r s
 |_,_=>false
def bX (n:Nat)(xs:List aK)(b6 du:Nat):Option aS->Option aS->Bool
 |none,_=>true
 |some (.slot none .dead),_=>true
 |some (.slot none (.one a)),some (.slot none (.one b))=>yL (a.sub n xs b6 du) b
 |some (.slot none (.agg a)),some (.slot none (.agg b))=>dZ (iB n xs b6 du a) b
 |some (.box r a),some (.box r' b)=>(r==r')&&dZ (iB n xs b6 du a) b
 |some (.root x m v .gone),_=>true
 |some (.root x m v st),some (.root x' m' v' ve)=>Bas st ve&&Nat.beq m m'&&Nat.beq v v'&&(Oa4 n xs x).beq0 x'
 |_,_=>false
def Caq (n:Nat)(xs:List aK)(b6 du:Nat)(τ s:St):List Nat->Bool
 |[]=>true
 |k::ks=>bX n xs b6 du (τ.get k) (s.get k)&&Caq n xs b6 du τ s ks
def Cas (n:Nat)(xs:List aK)(b6 du:Nat)(τ s:St):List Nat->Bool
 |[]=>true
 |r::rs=>bX n xs b6 du (τ.get (kR r)) (s.get (kR (Ua0 b6 du r)))&&Cas n xs b6 du τ s rs
def nE (E:Env)(n:Nat)(xs:List aK)(eK b6 du len:Nat)(τ s:St):Bool :=
 Caq n xs b6 du τ s ((range 0 (E.ntmps+E.ngh)).map kT++(range 0 τ.nb).map kB)&&Cas n xs b6 du τ s (range 0 eK++range b6 len)
def lC (b c k:Nat):Nat:=bif Nat.beq k b then c else bif Nat.beq k c then b else k
mutual
def aR.swap (b c:Nat):aR->aR
 |.px k o=>.px (lC b c k) o
 |.pe l s i o=>.pe (l.swap b c) s i o
 |.clo f l=>.clo f (bV b c l)
 |l=>l
def bV (b c:Nat):List aR->List aR
 |[]=>[]
 |a::r=>a.swap b c::bV b c r
end
def Zal (b c:Nat):SV->SV
 |.dead=>.dead
 |.one l=>.one (l.swap b c)
 |.agg ls=>.agg (bV b c ls)
 |.tup ts=>.tup (ts.map fun t=>(t.1,bV b c t.2))
def nR (b c:Nat):aS->aS
 |.slot g v=>.slot g (Zal b c v)
 |.box ro ls=>.box ro (bV b c ls)
 |.root x m v st=>.root x m v st
def mH (b c k:Nat):Nat:=bif Nat.beq (k % 3) 1 then kB (lC b c (k / 3)) else k
def Pa0 (f:Nat->Option aS):List Nat->Tr aS->Tr aS
 |[],t=>t
 |k::ks,t=>Pa0 f ks (t.set 16 k (f k))
def St.swap (s:St)(b c:Nat):St:={ s with tr:=Pa0 (fun k=>(s.get (mH b c k)).map (nR b c)) ((range 0 s.nt).map kT++(range 0 s.nb).map kB++(range 0 s.nr).map kR) s.tr }
def Tad (E:Env)(τ:St):List Nat->St->St
 |[],s=>s
 | t :: ts, s => Tad E τ ts (match τ.get (kT t), s.get (kT t) with
  | some (.slot none (.one (.px b 0))), some (.slot none (.one (.px c 0))) =>
   bif !(Nat.beq b c)&&Nat.ble E.nbx b&&Nat.ble E.nbx c&&Ac8 b s.nb&&Ac8 c s.nb then s.swap b c else s
  |_,_=>s)
def Jag (E:Env)(n eK b6:Nat)(a8:List Pos)(τ:St)(kind:Kind)(s:St):Option (Tm St):=do
 let (ls,s1,xs) <- jX E s.nr a8 0 { s with nr:=s.nr+a8.length }
 let s2 <- iA τ (range 0 eK) s1
 bif nE E n xs eK b6 s.nr a8.length τ s2&&nJ s.tr s.nr a8.length&&Nat.ble eK s.nr&&eF s.nv ls&&xs.all (bA (s.nv+bH ls)) then some (oG none (.leaf kind xs s2) ls) else kD 1
def coerce (E:Env)(n eK b6:Nat)(a8:List Pos)(τ:St)(kind:Kind)(s:St):Option (Tm St):=Jag E n eK b6 a8 τ kind (Tad E τ E.pxs s)
def Tm.no {β:Type}(f:Kind->Bool):Tm β->Bool
 |.leaf k _ _=>!(f k)
 |.stuck=>true
 |.lt _ _ _ _ k=>k.no f
 |.call _ _ _ _ _ k=>k.no f
 |.ite _ t e=>t.no f&&e.no f
 |.bind _ t k=>t.no f&&k.no f
 |.loop _ b=>b.no f
def pR:Kind->Bool
 |.fall=>true
 |_=>false
def Ra7 (id:Nat):Kind->Bool
 |.fall=>true
 |.exit j=>Nat.beq id j
 |_=>false
def oP (id:Nat):Kind->Bool
 |.exit j=>Nat.beq id j
 |_=>false
def Nam (i:Nat):Kind->Bool
 |.yield j=>Nat.beq i j
 |_=>false
def Vay:Kind->Bool
 |.cont=>true
 |_=>false
def Tm.falls:Tm St->List St
 |.leaf .fall _ s=>[s]
 |.leaf _ _ _=>[]
 |.stuck=>[]
 |.lt _ _ _ _ k=>k.falls
 |.call _ _ _ _ _ k=>k.falls
 |.ite _ t e=>t.falls++e.falls
 |.bind _ _ k=>k.falls
 |.loop _ _=>[]
def Tm.exits (id:Nat):Tm St->List St
 |.leaf (.exit j) _ s=>bif Nat.beq j id then [s] else []
 |.leaf _ _ _=>[]
 |.stuck=>[]
 |.lt _ _ _ _ k=>k.exits id
 |.call _ _ _ _ _ k=>k.exits id
 |.ite _ t e=>t.exits id++e.exits id
 |.bind _ t k=>t.exits id++k.exits id
 |.loop _ b=>b.exits id
def Tm.tailExits (id:Nat):Tm St->List St
 |.leaf (.exit j) _ s=>bif Nat.beq j id then [s] else []
 |.leaf _ _ _=>[]
 |.stuck=>[]
 |.lt _ _ _ _ k=>k.tailExits id
 |.call _ _ _ _ _ k=>k.tailExits id
 |.ite _ t e=>t.tailExits id++e.tailExits id
 |.bind _ t k=>k.tailExits id
 |.loop _ b=>[]
def Tm.graft (f:St->Option (Tm St)):Tm St->Option (Tm St)
 |.leaf .fall _ s=>f s
 |.leaf k xs s=>some (.leaf k xs s)
 |.stuck=>some .stuck
 |.lt g p xs n k=>(k.graft f).map fun k=>.lt g p xs n k
 |.call g c xs n o k=>(k.graft f).map fun k=>.call g c xs n o k
 |.ite c t e=>(t.graft f).bind fun t=>(e.graft f).map fun e=>.ite c t e
 |.bind i t k=>bif t.no pR then (k.graft f).map fun k=>.bind i t k else none
 |.loop i b=>bif b.no pR then some (.loop i b) else none
def Tm.exitFall (id:Nat):Tm St->Option (Tm St)
 |.leaf (.exit j) xs s=>some (bif Nat.beq id j then .leaf .fall [] s else .leaf (.exit j) xs s)
 |.leaf k xs s=>some (.leaf k xs s)
 |.stuck=>some .stuck
 |.lt g p xs n k=>(k.exitFall id).map fun k=>.lt g p xs n k
 |.call g c xs n o k=>(k.exitFall id).map fun k=>.call g c xs n o k
 |.ite c t e=>(t.exitFall id).bind fun t=>(e.exitFall id).map fun e=>.ite c t e
 |.bind i t k=>bif t.no (oP id) then (k.exitFall id).map fun k=>.bind i t k else none
 |.loop i b=>bif b.no (oP id) then some (.loop i b) else none
def Tm.turn (out:Kind)(jc:Kind->Bool)(f:St->Option (Tm St)):Tm St->Option (Tm St)
 |.leaf k xs s=>bif jc k then f s else some (.leaf k xs s)
 |.stuck=>some .stuck
 |.lt g p xs n k=>(k.turn out jc f).map fun k=>.lt g p xs n k
 |.call g c xs n o k=>(k.turn out jc f).map fun k=>.call g c xs n o k
 |.ite c t e=>(t.turn out jc f).bind fun t=>(e.turn out jc f).map fun e=>.ite c t e
 | .bind i t k =>
  bif Nam i out then (bif t.no jc then (k.turn out jc f).map fun k=>.bind i t k else none)
  else (t.turn out jc f).bind fun t=>(k.turn out jc f).map fun k=>.bind i t k
 |.loop i b=>bif Vay out then (bif b.no jc then some (.loop i b) else none) else (b.turn out jc f).map fun b=>.loop i b
def Obn (l:List St)(n:Nat):Nat:=l.foldl (fun m s=>max m s.nr) n
def Ram (τ:St)(eK:Nat):List (Nat×Nat)->Bool
 |[]=>true
 | (r, k) :: d => Ac8 r eK && (match τ.get (kR r) with
  |some (.root _ _ _ .gone)=>true
  |some (.root _ _ _ (.fwd _))=>true
  |some (.root _ _ v _)=>Nat.ble k v
  |_=>false)&&Ram τ eK d
mutual
def aR.wf (τ:St)(eK:Nat):aR->Bool
 |.ex r=>(τ.get (kR r)).isSome
 |.sn d _ _ _=>Ram τ eK d
 |.px b _=>(τ.get (kB b)).isSome
 |.pe l _ _ _=>l.wf τ eK
 |.rp d _ _=>Ram τ eK d
 |.clo _ l=>nO τ eK l
 |_=>true
def nO (τ:St)(eK:Nat):List aR->Bool
 |[]=>true
 |a::r=>a.wf τ eK&&nO τ eK r
end
def sP (τ:St)(eK k:Nat):Option aS->Bool
 |none=>true
 | some c => bW τ.nv c && (match c with
  |.slot none .dead=>Nat.beq (k % 3) 0
  |.slot none (.one l)=>Nat.beq (k % 3) 0&&l.wf τ eK
  |.slot none (.agg ls)=>Nat.beq (k % 3) 0&&nO τ eK ls
  |.box _ ls=>Nat.beq (k % 3) 1&&nO τ eK ls
  |.root _ _ _ (.fwd _)=>false
  |.root _ _ _ _=>Nat.beq (k % 3) 2
  |_=>false)
def Ga0 (τ:St)(eK:Nat):List Nat->Bool
 |[]=>true
 |k::ks=>sP τ eK k (τ.get k)&&Ga0 τ eK ks
def Vaj (τ:St):List Nat->Bool
 |[]=>true
 |k::ks=>(τ.get k).isNone&&Vaj τ ks
def Eav (E:Env)(s0:St)(b6 len:Nat)(τ:St):Bool :=
 Nat.beq τ.nv (s0.nv+len)&&Nat.ble E.ntmps τ.nt&&Nat.ble τ.nt (E.ntmps+E.ngh)&&Nat.beq τ.nr (b6+len)&&Nat.ble s0.nr b6 &&
 Vaj τ ((range s0.nr (b6-s0.nr)).map kR)&&Ga0 τ s0.nr ((range 0 τ.nt).map kT++(range 0 τ.nb).map kB++((range 0 s0.nr++range b6 len).map kR))
def join (E:Env)(live:Nat)(s0:St)(i:Nat)(jc:Kind->Bool)(ends:List St)(t:Tm St):Option (Tm St×St) :=
 let keys:=Nag E s0.nb live ends
 let a8:=Ibv s0.nv ends [] keys
 let fN:=Obn ends s0.nr
 let τ:=template E s0.nv s0.nb s0.nr fN ends keys a8
 bif Eav E s0 fN a8.length τ then (t.turn (.yield i) jc (coerce E s0.nv s0.nr fN a8 τ (.yield i))).map fun t=>(t,τ) else kD 6
def Tac (a b:List Pos):Bool :=
 match a,b with
 |[],[]=>true
 | p :: ps, q :: qs => Nat.beq p.k q.k && Nat.beq p.j q.j && (match p.f, q.f with
  |.sc,.sc=>true
  |.nil _,.nil _=>true
  |.ex m,.ex m'=>Nat.beq m m'
  |.sn,.sn=>true
  |.pn,.pn=>true
  |.rp _,.rp _=>true
  |.dead,.dead=>true
  |.alias i,.alias j=>Nat.beq i j
  |_,_=>false)&&Tac ps qs
 |_,_=>false
def Pau (τ:St)(ends:List St):List Nat->Bool
 |[]=>true
 | r :: rs => (match τ.get (kR r) with
  | some (.root _ m v st) => Bas st .gone || ends.all fun s => match s.get (kR r) with
   |some (.root _ m' v' ve)=>(Nat.beq m m'&&Nat.beq v v'&&Bas st ve)||(Bas st .frozen&&Bas ve .live)
   |_=>false
  |_=>true)&&Pau τ ends rs
def Ha3 (E:Env)(live:Nat)(s:St)(body:St->Option (Tm St)):Nat->List Pos->List Nat->Nat->List St->Option (Tm St)
 |0,_,_,_,_=>kD 3
 | fuel + 1, a8, keys, fN, seen =>
  let τ:=template E s.nv s.nb s.nr fN (s::seen) keys a8
  match body τ with
  |none=>none
  | some tb =>
   let ends:=tb.falls.map (Tad E s E.pxs)
   let keys':=Nag E s.nb live (s::ends)
   let plan':=Ibv s.nv (s::ends) a8 keys'
   bif Tac a8 plan'&&Nat.beq keys.length keys'.length&&Pau τ ends (range 0 s.nr) then do
    let (pre,s1,xs) <- jX E s.nr a8 0 { s with nr:=s.nr+a8.length }
    let s2 <- iA τ (range 0 s.nr) s1
    bif nE E s.nv xs s.nr fN s.nr a8.length τ s2&&nJ s.tr s.nr a8.length&&pre.isEmpty&&Eav E s fN a8.length τ then do
     let tb <- tb.turn .cont pR (coerce E s.nv s.nr fN a8 τ .cont)
     some (.loop xs tb)
    else kD 2
   else Ha3 E live s body fuel plan' keys' (Obn ends fN) ends
def Cbw:Operand->Option Bool
 |.const (.bool b)=>some b
 |_=>none
def Qa5:Code->Nat
 |.region r _ _=>r
 |.seq a _=>Qa5 a
 |.cond _ a _=>Qa5 a
 |.block _ b=>Qa5 b
 |.loop b=>Qa5 b
 |_=>0
def hintOf:List (Nat×List (Nat×Nat×Nat×Nat)×List Nat×Nat×List Nat)->Nat->Option (List (Nat×Nat×Nat×Nat)×List Nat×Nat×List Nat)
 |[],_=>none
 |(k,h)::r,n=>bif Nat.beq k n then some h else hintOf r n
def Obu (c z:Nat):Form :=
 match c with
 |0=>.sc
 |1=>.nil z
 |2=>.ex z
 |3=>.sn
 |4=>.pn
 |5=>.rp z
 |6=>.alias z
 |_=>.dead
def Ibr (s:St):List Nat->St->St
 |[],t=>t
 | d :: ds, t => Ibr s ds (t.put (kR (d / 3)) (match d % 3 with
  |0=>some (.root (.c .hole) 0 0 .gone)
  |1=>s.get (kR (d / 3))
  | _ => match s.get (kR (d / 3)) with
   |some (.root x m v _)=>some (.root x m v .frozen)
   |c=>c))
def Nad (E:Env)(s:St)(body:St->Option (Tm St))(h:List (Nat×Nat×Nat×Nat)×List Nat×Nat×List Nat):Option (Tm St) :=
 let a8:List Pos:=h.1.map fun p=>⟨p.1,p.2.1,Obu p.2.2.1 p.2.2.2⟩
 let fN:=s.nr+h.2.2.1
 let τ:=kI s.nv fN a8 0 (Ibr s h.2.2.2 ⟨Ma8 s h.2.1 .nil,s.nv+a8.length,s.nb,fN+a8.length,s.nt⟩)
 match body τ with
 |none=>none
 | some tb => do
  let (pre,s1,xs) <- jX E s.nr a8 0 { s with nr:=s.nr+a8.length }
  let s2 <- iA τ (range 0 s.nr) s1
  bif nE E s.nv xs s.nr fN s.nr a8.length τ s2&&nJ s.tr s.nr a8.length&&pre.isEmpty&&Eav E s fN a8.length τ then do
   let tb <- tb.turn .cont pR (coerce E s.nv s.nr fN a8 τ .cont)
   some (.loop xs tb)
  else kD 2
def sxC (E:Env)(p7:Bool)(rb:Nat):Code->List (Nat×Nat)->Nat->St->Option (Tm St)
 |.skip,_,_,s=>some (.leaf .fall [] s)
 |.label _,_,_,s=>some (.leaf .fall [] s)
 |.ret,_,_,s=>some (.leaf .ret [] s)
 |.exit id,_,_,s=>some (.leaf (.exit id) [] s)
 |.region jy ops draw,_,_,s=>some (Mai E p7 jy ops.toList draw s)
 | .seq a b, ex, live, s => do
  let mid:=Ja8 b ex rb live
  let t <- sxC E p7 rb a ex mid s
  bif t.no pR then some t else
  match t.falls with
  |[_]=>t.graft (sxC E p7 rb b ex live)
  | ends => do
   let (t,τ) <- join E mid s 0 pR ends t
   let k <- sxC E p7 rb b ex live τ
   some (.bind 0 t k)
 | .cond c a b, ex, live, s =>
  match Cbw c with
  |some true=>sxC E p7 rb a ex live s
  |some false=>sxC E p7 rb b ex live s
  |none =>
  match s.get (match c with|.tmp t=>kT t|_=>0),c with
  | some (.slot none (.one (.sc x))), .tmp t => bif !(bA s.nv x && Ac8 t E.ntmps) then some .stuck else do
   let t <- sxC E p7 rb a ex live s
   let e <- sxC E p7 rb b ex live s
   some (.ite x t e)
  |_,_=>some .stuck
 | .block id b, ex, live, s => do
  let t <- sxC E p7 rb b ((id,live)::ex) live s
  bif t.no (oP id) then some t else
  match t.falls,t.exits id,t.tailExits id with
  |[],[_],[_]=>t.exitFall id
  | fs, es, _ => do
   let (t,τ) <- join E live s (id+1) (Ra7 id) (fs++es) t
   some (.bind (id+1) t (.leaf .fall [] τ))
 | .loop b, ex, _, s =>
  let live':=Ja8 (.loop b) ex rb 0
  match hintOf E.hints (Qa5 b) with
  |some h=>Nad E s (sxC E p7 rb b ex live') h
  |none=>Ha3 E live' s (sxC E p7 rb b ex live') 9 [] (Nag E s.nb live' [s]) s.nr []
 |.scope _,_,_,_=>some .stuck
 |.goto _,_,_,_=>some .stuck
 |.rangeFunc _ _ _ _,_,_,_=>some .stuck
 |.refuse _,_,_,_=>some .stuck
def iO (i nr:Nat):LS->aR×List (Nat×aS)×Nat×Nat
 |.sc=>(.sc (.v i),[],i+1,nr)
 |.fz nie=>(.sn [] .no nie (.v i),[],i+1,nr)
 |.mu m=>(.ex nr,[(kR nr,.root (.v i) m 0 .live)],i+1,nr+1)
 |.ow m=>(.ex nr,[(kR nr,.root (.v i) m 0 .live)],i+1,nr+1)
 |.px b=>(.px b 0,[],i,nr)
 |.clo f cs=>(.clo f (cs.map fun c=>match c with | .px b=>.px b 0 | _=>.dead),[],i,nr)
 |.rp z=>(.rp [] z (.v i),[],i+1,nr)
def dR (i nr:Nat):List LS->List aR×List (Nat×aS)×Nat×Nat
 |[]=>([],[],i,nr)
 | s :: ss =>
  let (l,u,i,nr):=iO i nr s
  let (ls,us,i,nr):=dR i nr ss
  (l::ls,u++us,i,nr)
def jL (t i nr:Nat):List (Bool×List LS)->List (Nat×aS)×Nat×Nat
 |[]=>([],i,nr)
 | (a, ss) :: ps =>
  let (ls,u,i,nr):=dR i nr ss
  let (us,i,nr):=jL (t+1) i nr ps
  ((kT t,.slot none (match Uaz a ls with|some v=>v|none=>.dead))::u++us,i,nr)
def gP (i nr:Nat):BS->aR×List (Nat×aS)×Nat×Nat
 |.sc=>(.sc (.v i),[],i+1,nr)
 |.fz nie=>(.sn [] .no nie (.v i),[],i+1,nr)
 |.ow m=>(.ex nr,[(kR nr,.root (.v i) m 0 .live)],i+1,nr+1)
 |.ot=>(.dead,[],i,nr)
def gJ (i nr:Nat):List (BS×BO)->List aR×List (Nat×aS)×Nat×Nat
 |[]=>([],[],i,nr)
 | (s, _) :: ss =>
  let (l,u,i,nr):=gP i nr s
  let (ls,us,i,nr):=gJ i nr ss
  (l::ls,u++us,i,nr)
def kM (b i nr:Nat):List (Bool×List (BS×BO))->List (Nat×aS)×Nat×Nat
 |[]=>([],i,nr)
 | (ro, cs) :: bs =>
  let (ls,u,i,nr):=gJ i nr cs
  let (us,i,nr):=kM (b+1) i nr bs
  ((kB b,.box ro ls)::u++us,i,nr)
def eH (r:Nat):List LS->List Nat
 |[]=>[]
 |.mu _::ss=>r::eH (r+1) ss
 |.ow _::ss=>eH (r+1) ss
 |_::ss=>eH r ss
def sM (t:Nat):List aR->List (Nat×aS)
 |[]=>[]
 |l::ls=>(kT t,.slot none (.one l))::sM (t+1) ls
def Qa0 (s:Sig):List aR:=(eH 0 (s.params.flatMap (·.2))).map aR.ex++(range 0 s.boxes.length).map fun b=>aR.px b 0
def nD (s:Sig):Nat:=(Qa0 s).length
def entry (s:Sig)(ntmps:Nat):St :=
 let (u,i,nr):=jL 0 0 0 s.params
 let (v,i,nr):=kM 0 i nr s.boxes
 (St.puts ⟨.nil,i,s.boxes.length,nr,ntmps+nD s⟩ (u++v++sM ntmps (Qa0 s)))
structure Fin where
 xs:List aK
 own:List (Nat×Nat×Nat)
 q:Nat
 frz:List Nat
 lets:List Step
 bxs:List Nat
def zX (F:Fin)(r m:Nat)(x:aK):Fin:={ F with xs:=F.xs++[x],own:=F.own++[(r,2*F.q,m)],q:=F.q+1 }
def Va5 (F:Fin)(z:Nat):Fin:={ F with xs:=F.xs++[.c (.rows z [])],q:=F.q+1 }
def Qa8 (F:Fin)(m:Nat):aR->RdM Fin
 |.sn [] _ true (.c (.rows z []))=>.ret (Va5 F z)
 | .ex r => do
  match <- rdK (kR r) with
  | some (.root x m' v .live) => do
   bL (Nat.ble m m')
   .ret (zX F r m x)
  |_=>.no
 | .sn [(r, k)] .view _ x => do
  match <- rdK (kR r) with
  | some (.root _ m' v .live) => do
   bL (Nat.ble m m'&&Nat.beq v k)
   .ret (zX F r m x)
  |_=>.no
 |_=>.no
def Raa (F:Fin)(l:aR):RdM Fin:=do
 let s <- yB l
 .ret { F with xs:=F.xs++[s.x],frz:=F.frz++s.deps.map (·.1) }
def Ia1 (nv:Nat)(F:Fin):LR->aR->RdM Fin
 |.sc,.sc x=>.ret { F with xs:=F.xs++[x] }
 |.fz,l=>Raa F l
 |.ow m,l=>Qa8 F m l
 |.rp z,.pn=>.ret { F with xs:=F.xs++[.c (.rows z [])] }
 | .rp z, .rp deps z' x => do
  let d <- vX deps
  .ret { F with xs:=F.xs++[x],frz:=F.frz++d.map (·.1) }
 | .rp z, .pe l z' i 0 => do
  let s <- yB l
  .ret { F with xs:=F.xs++[.v (nv+bH F.lets)],frz:=F.frz++s.deps.map (·.1),lets:=F.lets++[.prim (.one z') [s.x,i] 1] }
 |_,_=>.no
def Da9 (F:Fin):BO->aR->RdM Fin
 |.sc,.sc x=>.ret { F with xs:=F.xs++[x] }
 |.fz,l=>Raa F l
 |.ow m,l=>Qa8 F m l
 |.dead,l=>bif Oa5 l then .ret { F with xs:=F.xs++[.c .hole] } else .no
 |_,_=>.no
def jC:Fin->List BO->List aR->RdM Fin
 |F,[],[]=>.ret F
 | F, s :: ss, l :: ls => do
  let F <- Da9 F s l
  jC F ss ls
 |_,_,_=>.no
def iD (nv:Nat):Fin->List LR->List aR->RdM Fin
 |F,[],[]=>.ret F
 | F, s :: ss, l :: ls => do
  let F <- (match s,l with
   | .bx cs, .px b 0 => do
    match <- rdK (kB b) with
    |some (.box false bs)=>jC { F with bxs:=F.bxs++[b] } cs bs
    |_=>.no
   |s,l=>Ia1 nv F s l)
  iD nv F ss ls
 |_,_,_=>.no
def pE (E:Env)(nv:Nat):Fin->List (Bool×List LR)->List ResultVar->RdM Fin
 |F,[],[]=>.ret F
 | F, (a, ss) :: rs, .tmp t :: vs => do
  match <- rdK (kT t) with
  | some (.slot none v) => do
   bL (Ac8 t E.ntmps)
   let ls <- nN (jY a v)
   let F <- iD nv F ss ls
   pE E nv F rs vs
  |_=>.no
 | F, (a, ss) :: rs, .cell t ty :: vs => do
  let ti <- nN (E.ti ty)
  bL ((a==ti.agg)&&Nat.beq ss.length ti.size&&(ti.agg||Nat.beq ti.size 1)&&Ac8 t E.ntmps)
  match <- rdK (kT t) with
  | some (.slot none (.one (.px b off))) => do
   match <- rdK (kB b) with
   | some (.box _ ls) => do
    let F <- iD nv F ss ((ls.drop off).take ti.size)
    pE E nv F rs vs
   |_=>.no
  |_=>.no
 |_,_,_=>.no
def dV:List LS->List Nat
 |[]=>[]
 |.mu m::ss=>m::dV ss
 |_::ss=>dV ss
def Fak (t:Nat):Nat->List Nat->Fin->RdM Fin
 |_,[],F=>.ret F
 | j, d :: ds, F => do
  match <- rdK (kT (t+j)) with
  | some (.slot none (.one (.ex r))) => do
   match <- rdK (kR r) with
   | some (.root x m _ .live) => do
    bL (Nat.ble d m)
    Fak t (j+1) ds { F with xs:=F.xs++[x],own:=F.own++[(r,2*j+1,d)] }
   |_=>.no
  |_=>.no
def qO (t:Nat):Fin->Nat->List (Bool×List (BS×BO))->RdM Fin
 |F,_,[]=>.ret F
 | F, b, (ro, cs) :: r => do
  bif ro then qO t F (b+1) r else
  match <- rdK (kT (t+b)) with
  | some (.slot none (.one (.px b' 0))) => do
   bL (Nat.beq b' b)
   match <- rdK (kB b) with
   | some (.box false ls) => do
    let F <- jC F (cs.map (·.2)) ls
    qO t F (b+1) r
   |_=>.no
  |_=>.no
def Ib2 (E:Env)(s:Sig)(results:List ResultVar)(nv:Nat):RdM Fin:=do
 let F <- pE E nv ⟨[],[],0,[],[],[]⟩ s.results results
 let ms:=dV (s.params.flatMap (·.2))
 let F <- Fak E.ntmps 0 ms F
 qO (E.ntmps+ms.length) F 0 s.boxes
def finish (E:Env)(s:Sig)(results:List ResultVar)(st:St):Option (Tm St) :=
 match (Ib2 E s results st.nv).eval st.get with
 | some F =>
  bif distinct (F.own.map (·.1))&&!(meets (F.own.map (·.1)) F.frz)&&!(F.bxs.any fun b=>Ac8 b s.boxes.length)&&eF st.nv F.lets then
   some (oG none (.leaf .ret F.xs st) F.lets) else none
 |none=>none
def Ibp (E:Env)(p7:Bool)(s:Sig)(body:Code)(live:Nat):Option (Tm St) :=
 let e:=entry s E.ntmps
 bif Ga0 e e.nr ((range 0 e.nt).map kT++(range 0 e.nb).map kB++(range 0 e.nr).map kR) then sxC E p7 live body [] live e else kD 7
def Jb2 (l:List ResultVar):Nat:=l.foldl (fun m r=>match r with|.tmp t=>m ||| 2 ^ t|.cell t _=>m ||| 2 ^ t) 0
def Sb1:Kind->Bool
 |.ret=>true
 |.fall=>true
 |_=>false
def Wa8 (E:Env)(s:Sig)(fn:Func):Option (Tm Unit) :=
 match fn.body with
 |none=>none
 | some c => bif !(Nat.ble s.params.length fn.ntmps) then none else do
  let E:={ E with ntmps:=fn.ntmps,ngh:=nD s,nbx:=s.boxes.length }
  let t <- Ibp E false s c (Jb2 fn.results.toList)
  let t <- t.turn .ret Sb1 fun st=>(match finish E s fn.results.toList st with|some t=>some t|none=>some .stuck)
  some t.strip
inductive Sc:Value->D->Prop
 |int (k:IntKind) (n:Int):Sc (.int k n) (.int k n)
 |bool (b:Bool):Sc (.bool b) (.bool b)
 |str (l:List UInt8):Sc (.string ⟨l.toArray⟩) (.str l)
inductive Rd (ok:Nat->Prop) (w:World):Value->D->Prop
 |sc {v:Value} {d:D} (h:Sc v d):Rd ok w v d
 |hole (v:Value) (h1:v.oneCell'=true):Rd ok w v .hole
 | rows (A : Option Addr) (a : Addr) (n c sz : Nat) (rs : List (List D)) (vs : Nat -> Nat -> Value)
   (hn:rs.length=n) (hc:n<=c) (hA:n=0\/A=some a) (df:∀ r∈rs,r.length=sz)
   (bb:∀ i r,rs[i]?=some r->∀ j d,r[j]?=some d->ok a.block/\w.cell? (a.add (i*sz+j))=some (vs i j))
   (cq:∀ i r,rs[i]?=some r->∀ j d,r[j]?=some d->Rd ok w (vs i j) d) :
   Rd ok w (.slice A n c) (.rows sz rs)
inductive Ow where
 |frz
 |slc (r:Nat) (p:List Nat)
 |box (b:Nat)
 |oth
 deriving DecidableEq
inductive Rp (own:Nat->Ow) (w:World) (r:Nat):List Nat->Nat->Value->D->Prop
 |sc {p:List Nat} {m:Nat} {v:Value} {d:D} (h:Sc v d):Rp own w r p m v d
 |hole {p:List Nat} {m:Nat} (v:Value) (h1:v.oneCell'=true):Rp own w r p m v .hole
 |fz {p:List Nat} {v:Value} {d:D} (h:Rd (fun b=>own b=.frz) w v d):Rp own w r p 0 v d
 | sl {p : List Nat} {m : Nat} (A : Option Addr) (a : Addr) (n c sz : Nat) (rs : List (List D)) (vs : Nat -> Nat -> Value)
   (hn:rs.length=n) (hc:n<=c) (hA:A=some a\/(A=none/\c=0)) (df:∀ r∈rs,r.length=sz)
   (az:A=some a->a.spot=none/\own a.block=.slc r p/\∀ k,k<c*sz->∃ u,w.cell? (a.add k)=some u/\w.frozen? (a.add k)=false)
   (bb:∀ i row,rs[i]?=some row->∀ j d,row[j]?=some d->w.cell? (a.add (i*sz+j))=some (vs i j))
   (cq:∀ i row,rs[i]?=some row->∀ j d,row[j]?=some d->Rp own w r (p++[i*sz+j]) m (vs i j) d) :
   Rp own w r p (m+1) (.slice A n c) (.rows sz rs)
def zI (own:Nat->Ow)(w:World)(r:Nat):List Nat->Value->List Nat->Value->Prop
 |_,v,[],u=>u=v
 |q,v,k::p,u=>∃ a n c u',v=.slice (some a) n c/\own a.block=.slc r q/\w.cell? (a.add k)=some u'/\zI own w r (q++[k]) u' p u
theorem eU {w w':World}{a:Addr}(h:w'.heap[a.block]?=w.heap[a.block]?):w'.cell? a=w.cell? a:=by
 unfold World.cell?;rw[h]
theorem kN {w w':World}{a:Addr}(h:w'.heap[a.block]?=w.heap[a.block]?):w'.frozen? a=w.frozen? a:=by
 unfold World.frozen?;rw[h]
theorem add_block (a:Addr)(k:Nat):(a.add k).block=a.block:=by unfold Addr.add;split<;>rfl
theorem add_add (a:Addr)(j k:Nat):(a.add j).add k=a.add (j+k):=by
 unfold Addr.add;by_cases hj:j=0<;>by_cases hk:k=0<;>simp_all<;>omega
theorem Rd.mono {ok ok':Nat->Prop}{w w':World}{v:Value}{d:D}(h:Rd ok w v d)
  (hf:∀ b,ok b->ok' b/\w'.heap[b]?=w.heap[b]?):Rd ok' w' v d:=by
 induction h with
 |sc h=>exact .sc h
 |hole v h1=>exact .hole v h1
 | rows A a n c sz rs vs hn hc hA df bb cq ih =>
  refine .rows A a n c sz rs vs hn hc hA df (fun i r hi j d hj=>?_) (fun i r hi j d hj=>ih i r hi j d hj);obtain⟨h1,h2⟩:=bb i r hi j d hj;obtain⟨h3,h4⟩:=hf _ h1;exact⟨h3,(eU (w:=w) (w':=w') (by rw[add_block];exact h4)).trans h2⟩
theorem Rp.mono {own own':Nat->Ow}{w w':World}{r r':Nat}{q q':List Nat}{p:List Nat}{m:Nat}{v:Value}{d:D}(h:Rp own w r p m v d)
  (hz:∀ b,own b=.frz->own' b=.frz/\w'.heap[b]?=w.heap[b]?) :
  ∀ s,p=q++s->(∀ b t,own b=.slc r (q++t)->own' b=.slc r' (q'++t)/\w'.heap[b]?=w.heap[b]?)->Rp own' w' r' (q'++s) m v d:=by
 induction h with
 |sc h=>exact fun _ _ _=>.sc h
 |hole v h1=>exact fun _ _ _=>.hole v h1
 |fz h=>exact fun _ _ _=>.fz (h.mono hz)
 | sl A a n c sz rs vs hn hc hA df az bb cq ih =>
  rename_i p m;intro s hp hs;refine .sl A a n c sz rs vs hn hc hA df (fun e=>?_) (fun i row hi j d hj=>?_) (fun i row hi j d hj=>?_)
  ·obtain⟨h1,h2,h3⟩:=az e
   rw[hp]at h2;obtain⟨h4,h5⟩:=hs _ _ h2;refine⟨h1,h4,fun k hk=>?_⟩;obtain⟨u,hu,hf⟩:=h3 k hk;exact⟨u,(eU (w:=w) (w':=w') (by rw[add_block];exact h5)).trans hu,(kN (w:=w) (w':=w') (by rw[add_block];exact h5)).trans hf⟩
  ·rcases hA with e|⟨e,e'⟩
   ·obtain⟨h1,h2,h3⟩:=az e
    rw[hp]at h2;obtain⟨h4,h5⟩:=hs _ _ h2;exact (eU (w:=w) (w':=w') (by rw[add_block];exact h5)).trans (bb i row hi j d hj)
   ·exfalso
    have:i<rs.length:=by
     rcases Aca i rs.length with h|h
     ·exact h
     ·simp[Bcb h]at hi
    omega
  ·have:=ih i row hi j d hj (s++[i*sz+j]) (by rw[hp,Zbx]) hs
   rwa[<- Zbx]at this
theorem Rp.rd {own:Nat->Ow}{w:World}{r:Nat}{p:List Nat}{m:Nat}{v:Value}{d:D}(h:Rp own w r p m v d) :
  Rd (fun b=>own b=.frz\/∃ q,own b=.slc r q) w v d:=by
 induction h with
 |sc h=>exact .sc h
 |hole v h1=>exact .hole v h1
 |fz h=>exact h.mono fun b hb=>⟨.inl hb,rfl⟩
 | sl A a n c sz rs vs hn hc hA df az bb cq ih =>
  refine .rows A a n c sz rs vs hn hc ?_ df (fun i row hi j d hj=>?_) ih
  ·rcases hA with e|⟨e,e'⟩
   ·exact .inr e
   ·exact .inl (by omega)
  ·refine⟨?_,bb i row hi j d hj⟩
   rcases hA with e|⟨e,e'⟩
   ·exact .inr ⟨_,(az e).2.1⟩
   ·exfalso
    have:i<rs.length:=by
     rcases Aca i rs.length with h|h
     ·exact h
     ·simp[Bcb h]at hi
    omega
theorem Rp.weaken {own own':Nat->Ow}{w:World}{r:Nat}{p:List Nat}{m:Nat}{v:Value}{d:D}(h:Rp own w r p m v d)
  (hz:∀ b,own b=.frz->own' b=.frz):∀ (m':Nat),m'<=m ->
  (∀ b t,own b=.slc r (p++t)->own' b=(if t.length<m' then .slc r (p++t) else .frz))->Rp own' w r p m' v d:=by
 induction h with
 |sc h=>exact fun _ _ _=>.sc h
 |hole v h1=>exact fun _ _ _=>.hole v h1
 | fz h =>
  intro m' hm hs;obtain rfl:m'=0:=by omega
  exact .fz (h.mono fun b hb=>⟨hz b hb,rfl⟩)
 | sl A a n c sz rs vs hn hc hA df az bb cq ih =>
  rename_i p m;intro m' hm hs
  cases m' with
  | zero =>
   refine .fz (.rows A a n c sz rs vs hn hc ?_ df (fun i row hi j d hj=>?_) (fun i row hi j d hj=>?_))
   ·rcases hA with e|⟨e,e'⟩
    ·exact .inr e
    ·exact .inl (by omega)
   ·refine⟨?_,bb i row hi j d hj⟩
    rcases hA with e|⟨e,e'⟩
    ·have:=hs a.block [] (by simpa using (az e).2.1)
     simpa using this
    ·exfalso
     have:i<rs.length:=by
      rcases Aca i rs.length with h|h
      ·exact h
      ·simp[Bcb h]at hi
     omega
   ·have h1:=ih i row hi j d hj 0 (Nat.zero_le _) (fun b t hb=>by
     have:=hs b ([i*sz+j]++t) (by rw[<- Zbx];exact hb);simpa using this)
    generalize vs i j=u at h1
    cases h1 with
    |sc h=>exact .sc h
    |hole _ h1=>exact .hole _ h1
    |fz h=>exact h
  | succ m' =>
   refine .sl A a n c sz rs vs hn hc hA df (fun e=>?_) bb (fun i row hi j d hj=>?_)
   ·obtain⟨h1,h2,h3⟩:=az e
    refine⟨h1,?_,h3⟩;have:=hs a.block [] (by simpa using h2);simpa using this
   ·refine ih i row hi j d hj m' (by omega) (fun b t hb=>?_)
    have:=hs b ([i*sz+j]++t) (by rw[<- Zbx];exact hb);simp only[List.length_append,List.length_singleton]at this;rw[this,<- Zbx];by_cases ht:t.length<m'
    ·rw[if_pos ht,if_pos (by omega)]
    ·rw[if_neg ht,if_neg (by omega)]
theorem Sc.one {v:Value}{d:D}(h:Sc v d):v.oneCell'=true:=by cases h<;>rfl
theorem Rd.one {ok:Nat->Prop}{w:World}{v:Value}{d:D}(h:Rd ok w v d):v.oneCell'=true:=by
 cases h with
 |sc h=>exact h.one
 |hole _ h1=>exact h1
 |rows=>rfl
theorem Rp.one {own:Nat->Ow}{w:World}{r:Nat}{p:List Nat}{m:Nat}{v:Value}{d:D}(h:Rp own w r p m v d):v.oneCell'=true:=by
 cases h with
 |sc h=>exact h.one
 |hole _ h1=>exact h1
 |fz h=>exact h.one
 |sl=>rfl
structure Gh where
 own:Nat->Ow
 hdr:Nat->Value
 bx:Nat->Addr
def lY (σ:Nat->Option aS)(r k:Nat):Prop:=∃ x m st,σ (kR r)=some (.root x m k st)/\(st=.live\/st=.frozen)
def yZ (σ:Nat->Option aS)(r k m:Nat):Prop:=∃ x,σ (kR r)=some (.root x m k .live)
def jB (σ:Nat->Option aS)(r k:Nat):Prop:=∃ x m bc st,σ (kR r)=some (.root x m bc st)/\(st=.live\/st=.frozen->k<=bc)
def allow (G:Gh)(deps:List (Nat×Nat))(b:Nat):Prop:=G.own b=.frz\/∃ r k p,(r,k)∈deps/\G.own b=.slc r p
def kY (ρ:List D)(x:aK):Nat:=match x.val ρ with
 |.int _ n=>n.toNat
 |_=>0
def bB (ρ:List D)(p:List (aK×Nat×Nat)):List Nat:=p.map fun x=>kY ρ x.1*x.2.1+x.2.2
def Jbb (h v:Value)(sz L:Nat):Prop:=∃ A n c,h=.slice A n c/\L<=n/\v=.slice (if c=L then A else A.map (·.add (L*sz))) (n-L) (c-L)
def Daf (σ:Nat->Option aS)(ρ:List D)(G:Gh)(w:World)(deps:List (Nat×Nat))(v:Value)(d:D):Pth->Prop
 |.no=>True
 |.view=>∀ r k m,deps=[(r,k)]->yZ σ r k m->Rp G.own w r [] m v d
 |.suf sz lo=>∀ r k m,deps=[(r,k)]->yZ σ r k m->Jbb (G.hdr r) v sz (kY ρ lo)
 |.path p=>∀ r k m,deps=[(r,k)]->yZ σ r k m->p.length<=m/\Rp G.own w r (bB ρ p) (m-p.length) v d/\zI G.own w r [] (G.hdr r) (bB ρ p) v
mutual
def aB (σ:Nat->Option aS)(ρ:List D)(G:Gh)(w:World):aR->Value->Prop
 |.dead,v=>v.oneCell'=true
 |.sc x,v=>Sc v (x.val ρ)
 |.su g x,v=>(Sc v (x.val ρ)\/(v=undef/\x.val ρ=.undef))/\(gOn ρ (some g)=true->Sc v (x.val ρ))
 |.ex r,v=>v=G.hdr r/\(σ (kR r)).isSome/\v.oneCell'=true
 | .sn deps p nie x, v => (v.oneCell' = true /\ ∀ z ∈ deps, jB σ z.1 z.2) /\ ((∀ z ∈ deps, lY σ z.1 z.2) ->
   Rd (allow G deps) w v (x.val ρ)/\(nie=true->∀ z,x.val ρ=.rows z []->v=.slice none 0 0)/\Daf σ ρ G w deps v (x.val ρ) p)
 |.px b off,v=>v=.pointer (some ((G.bx b).add off))/\(σ (kB b)).isSome
 |.pe l sz i off,v=>∃ a n c k iv,aB σ ρ G w l (.slice (some a) n c)/\i.val ρ=.int k iv/\0<=iv/\iv.toNat<n/\v=.pointer (some (a.add (iv.toNat*sz+off)))
 | .rp deps sz x, v => (v.oneCell' = true /\ ∀ z ∈ deps, jB σ z.1 z.2) /\ ((∀ z ∈ deps, lY σ z.1 z.2) ->
   (v=.pointer none/\∃ z,x.val ρ=.rows z []) \/
   ∃ a row,v=.pointer (some a)/\x.val ρ=.rows row.length [row]/\Rd (allow G deps) w (.slice (some a) 1 1) (.rows row.length [row]))
 |.pn,v=>v=.pointer none
 |.clo f fj,v=>∃ vs,v=.func (.func f) #[] vs.toArray/\aG σ ρ G w fj vs
def aG (σ:Nat->Option aS)(ρ:List D)(G:Gh)(w:World):List aR->List Value->Prop
 |[],vs=>vs=[]
 |l::ls,vs=>∃ u us,vs=u::us/\aB σ ρ G w l u/\aG σ ρ G w ls us
end
def iI (σ:Nat->Option aS)(ρ:List D)(G:Gh)(w:World):List (Bool×List aR)->List Value->Prop
 |[],us=>us=[]
 |(a,ls)::r,us=>∃ u da vs,us=u::da/\aG σ ρ G w ls vs/\(if a=true then u=.agg vs.toArray else vs=[u])/\iI σ ρ G w r da
def bY (σ:Nat->Option aS)(ρ:List D)(G:Gh)(w:World):SV->Value->Prop
 |.dead,_=>True
 |.one l,v=>aB σ ρ G w l v
 |.agg ls,v=>∃ vs,v=.agg vs.toArray/\aG σ ρ G w ls vs
 |.tup ts,v=>∃ us,v=.tuple us.toArray/\iI σ ρ G w ts us
def Aa7 (n:Nat)(a:Act)(gh:Nat->Value)(t:Nat):Value:=if t<n then a.tmps.getD t undef else gh (t-n)
def bP (σ:Nat->Option aS)(ρ:List D)(G:Gh)(w:World)(r:Nat)(x:aK)(m:Nat):RSt->Prop
 |.live=>Rp G.own w r [] m (G.hdr r) (x.val ρ)
 |.frozen=>Rd (fun b=>G.own b=.frz) w (G.hdr r) (x.val ρ)/\∀ b p,G.own b≠.slc r p
 |.gone=>True
 |.fwd r'=>G.hdr r=G.hdr r'/\(σ (kR r')).isSome
def Mad (σ:Nat->Option aS)(ρ:List D)(G:Gh)(w:World)(b:Nat)(ro:Bool)(ls:List aR):Prop :=
 (G.bx b).spot=none/\G.own (G.bx b).block=(if ro=true then .oth else .box b) /\
 ∀ j l,ls[j]?=some l->∃ v,w.cell? ((G.bx b).add j)=some v/\w.frozen? ((G.bx b).add j)=false/\aB σ ρ G w l v
structure bG where
 w0:World
 own0:Nat->Ow
 gh:Nat->Value
 rng:Nat->Nat×Nat
structure mJ (F:bG) (G:Gh) (w:World):Prop where
 os:w.os=F.w0.os
 tape:w.tape=F.w0.tape
 output:w.output=F.w0.output
 size:F.w0.heap.size<=w.heap.size
 keep:∀ b,b<F.w0.heap.size->F.own0 b=.frz\/F.own0 b=.oth->w.heap[b]?=F.w0.heap[b]?/\G.own b=F.own0 b
 boxes:∀ b j,b<F.w0.heap.size->F.own0 b=.box j->G.own b=.box j/\∃ c0 c1 e fr,F.w0.heap[b]?=some (.cells c0 e fr)/\w.heap[b]?=some (.cells c1 e fr)/\c1.size=c0.size /\
  ∀ k,k<(F.rng j).1\/(F.rng j).2<=k->c1[k]?=c0[k]?
 fresh:∀ b,w.heap.size<=b->G.own b=.frz
def Dbn (n:Nat)(gh:Nat->Value)(σ:Nat->Option aS)(ρ:List D)(G:Gh)(a:Act)(w:World):Nat->aS->Prop
 |k,.slot g v=>∃ t,k=kT t/\(gOn ρ g=true->bY σ ρ G w v (Aa7 n a gh t))
 |k,.box ro ls=>∃ b,k=kB b/\Mad σ ρ G w b ro ls
 |k,.root x m bc st=>∃ r,k=kR r/\(σ (kR r)).isSome/\bP σ ρ G w r x m st
structure R (n:Nat) (F:bG) (σ:Nat->Option aS) (ρ:List D) (a:Act) (w:World) (G:Gh):Prop where
 tmps:a.tmps.size=n
 defers:a.defers=[]
 cont:∀ k c,σ k=some c->Dbn n F.gh σ ρ G a w k c
 frame:mJ F G w
 rng:∀ b ls,σ (kB b)=some (.box false ls)->(G.bx b).block<F.w0.heap.size->F.own0 (G.bx b).block=.box b->F.rng b=((G.bx b).off,(G.bx b).off+ls.length)
theorem Obq {a b:Nat}(h:kT a=kT b):a=b:=by unfold kT at h;omega
theorem Caj {a b:Nat}(h:kB a=kB b):a=b:=by unfold kB at h;omega
theorem eT {a b:Nat}(h:kR a=kR b):a=b:=by unfold kR at h;omega
theorem lQ {a b:Nat}:kT a≠kB b:=by unfold kT kB;omega
theorem iM {a b:Nat}:kT a≠kR b:=by unfold kT kR;omega
theorem fB {a b:Nat}:kB a≠kR b:=by unfold kB kR;omega
section
variable {n:Nat} {F:bG} {σ:Nat->Option aS} {ρ:List D} {a:Act} {w:World} {G:Gh}
theorem R.slot (h:R n F σ ρ a w G){t:Nat}{g:Option (aK×Bool)}{v:SV}(hk:σ (kT t)=some (.slot g v))(hg:gOn ρ g=true):bY σ ρ G w v (Aa7 n a F.gh t):=by
 obtain⟨t',e,h'⟩:=h.cont _ _ hk;obtain rfl:=Obq e;exact h' hg
theorem R.box (h:R n F σ ρ a w G){b:Nat}{ro:Bool}{ls:List aR}(hk:σ (kB b)=some (.box ro ls)):Mad σ ρ G w b ro ls:=by
 obtain⟨t',e,h'⟩:=h.cont _ _ hk;obtain rfl:=Caj e;exact h'
theorem R.root (h:R n F σ ρ a w G){r:Nat}{x:aK}{m bc:Nat}{st:RSt}(hk:σ (kR r)=some (.root x m bc st)):bP σ ρ G w r x m st:=by
 obtain⟨t',e,_,h'⟩:=h.cont _ _ hk;obtain rfl:=eT e;exact h'
end
structure Fr (σ:Nat->Option aS) (G:Gh) (w:World) (dT:Nat->Option aS) (G':Gh) (w':World):Prop where
 frz:∀ b,G.own b=.frz->b<w.heap.size->G'.own b=.frz/\w'.heap[b]?=w.heap[b]?
 valid:∀ r k,jB σ r k->lY dT r k->lY σ r k
 known:∀ r k,jB σ r k->jB dT r k
 slc:∀ r k b p,lY σ r k->lY dT r k->G.own b=.slc r p->(G'.own b=.slc r p\/G'.own b=.frz)/\w'.heap[b]?=w.heap[b]?
 live:∀ r k m,jB σ r k->yZ dT r k m->yZ σ r k m/\∀ b p,G.own b=.slc r p->G'.own b=.slc r p
 hdr:∀ r,(σ (kR r)).isSome->G'.hdr r=G.hdr r
 bx:∀ b,(σ (kB b)).isSome->G'.bx b=G.bx b
 keep:∀ k,(σ k).isSome->(dT k).isSome
 froz:∀ r x m k,σ (kR r)=some (.root x m k .frozen)->∀ b p,G'.own b=.slc r p->G.own b=.slc r p
theorem jB.some {σ:Nat->Option aS}{r k:Nat}(h:jB σ r k):(σ (kR r)).isSome:=by
 obtain⟨x,m,bc,st,e,_⟩:=h;rw[e];rfl
theorem lY.known {σ:Nat->Option aS}{r k:Nat}(h:lY σ r k):jB σ r k:=by
 obtain⟨x,m,st,e,_⟩:=h;exact⟨x,m,k,st,e,fun _=>Nat.le_refl _⟩
theorem jB.same {σ dT:Nat->Option aS}(h:∀ r,dT (kR r)=σ (kR r)){r k:Nat}(hk:jB σ r k):jB dT r k:=by
 obtain⟨x,m,bc,st,e,h1⟩:=hk;exact⟨x,m,bc,st,by rw[h];exact e,h1⟩
theorem yZ.valid {σ:Nat->Option aS}{r k m:Nat}(h:yZ σ r k m):lY σ r k:=by
 obtain⟨x,e⟩:=h;exact⟨x,m,.live,e,.inl rfl⟩
theorem block_lt {w:World}{a:Addr}{v:Value}(h:w.cell? a=some v):a.block<w.heap.size:=by
 rcases Aca a.block w.heap.size with h1|h1
 ·exact h1
 ·unfold World.cell? at h
  rw[Array.getElem?_eq_none h1]at h;cases h
theorem Jak {w:World}{a:Addr}{v:Value}(h:w.cell? a=some v):a.block<w.heap.size:=block_lt h
theorem Rd.mono' {ok ok':Nat->Prop}{w w':World}{v:Value}{d:D}(h:Rd ok w v d)
  (hf:∀ b,ok b->b<w.heap.size->ok' b/\w'.heap[b]?=w.heap[b]?):Rd ok' w' v d:=by
 induction h with
 |sc h=>exact .sc h
 |hole v h1=>exact .hole v h1
 | rows A a n c sz rs vs hn hc hA df bb cq ih =>
  refine .rows A a n c sz rs vs hn hc hA df (fun i r hi j d hj=>?_) (fun i r hi j d hj=>ih i r hi j d hj);obtain⟨h1,h2⟩:=bb i r hi j d hj;have hlt:=Jak h2;rw[add_block]at hlt;obtain⟨h3,h4⟩:=hf _ h1 hlt;exact⟨h3,(eU (w:=w) (w':=w') (by rw[add_block];exact h4)).trans h2⟩
theorem Rp.mono' {own own':Nat->Ow}{w w':World}{r r':Nat}{q q':List Nat}{p:List Nat}{m:Nat}{v:Value}{d:D}(h:Rp own w r p m v d)
  (hz:∀ b,own b=.frz->b<w.heap.size->own' b=.frz/\w'.heap[b]?=w.heap[b]?) :
  ∀ s,p=q++s->(∀ b t,own b=.slc r (q++t)->own' b=.slc r' (q'++t)/\w'.heap[b]?=w.heap[b]?)->Rp own' w' r' (q'++s) m v d:=by
 induction h with
 |sc h=>exact fun _ _ _=>.sc h
 |hole v h1=>exact fun _ _ _=>.hole v h1
 |fz h=>exact fun _ _ _=>.fz (h.mono' hz)
 | sl A a n c sz rs vs hn hc hA df az bb cq ih =>
  rename_i p m;intro s hp hs;refine .sl A a n c sz rs vs hn hc hA df (fun e=>?_) (fun i row hi j d hj=>?_) (fun i row hi j d hj=>?_)
  ·obtain⟨h1,h2,h3⟩:=az e
   rw[hp]at h2;obtain⟨h4,h5⟩:=hs _ _ h2;refine⟨h1,h4,fun k hk=>?_⟩;obtain⟨u,hu,hf⟩:=h3 k hk;exact⟨u,(eU (w:=w) (w':=w') (by rw[add_block];exact h5)).trans hu,(kN (w:=w) (w':=w') (by rw[add_block];exact h5)).trans hf⟩
  ·rcases hA with e|⟨e,e'⟩
   ·obtain⟨h1,h2,h3⟩:=az e
    rw[hp]at h2;obtain⟨h4,h5⟩:=hs _ _ h2;exact (eU (w:=w) (w':=w') (by rw[add_block];exact h5)).trans (bb i row hi j d hj)
   ·exfalso
    have:i<rs.length:=by
     rcases Aca i rs.length with h|h
     ·exact h
     ·simp[Bcb h]at hi
    omega
  ·have:=ih i row hi j d hj (s++[i*sz+j]) (by rw[hp,Zbx]) hs
   rwa[<- Zbx]at this
theorem zI.mono {own own':Nat->Ow}{w w':World}{r r':Nat}:∀ (p q q':List Nat) (v u:Value),
  (∀ b t,own b=.slc r (q++t)->own' b=.slc r' (q'++t)/\w'.heap[b]?=w.heap[b]?)->zI own w r q v p u->zI own' w' r' q' v p u
 |[],_,_,_,_,_,h=>h
 | k :: p, q, q', v, u, hs, h => by
  obtain⟨a,n,c,u',rfl,ho,hc,hn⟩:=h;obtain⟨h1,h2⟩:=hs a.block [] (by simpa using ho);refine⟨a,n,c,u',rfl,by simpa using h1,(eU (w:=w) (w':=w') (by rw[add_block];exact h2)).trans hc,?_⟩
  exact zI.mono p (q++[k]) (q'++[k]) u' u (fun b t hb=>by
   have:=hs b (k::t) (by simpa using hb);simpa using this) hn
section
variable {σ dT:Nat->Option aS} {ρ:List D} {G G':Gh} {w w':World}
theorem Daf.mono (h:Fr σ G w dT G' w'){deps:List (Nat×Nat)}(hex:∀ z∈deps,jB σ z.1 z.2){v:Value}{d:D}{p:Pth}(hp:Daf σ ρ G w deps v d p):Daf dT ρ G' w' deps v d p:=by
 cases p with
 |no=>trivial
 | view =>
  intro r k m e hl;obtain⟨fm,ho⟩:=h.live r k m (hex (r,k) (by simp[e])) hl;have:=(hp r k m e fm).mono' (q:=[]) (q':=[]) h.frz [] rfl (fun b t hb=>⟨ho b t hb,(h.slc r k b _ fm.valid hl.valid hb).2⟩);simpa using this
 | suf sz lo =>
  intro r k m e hl;obtain⟨fm,ho⟩:=h.live r k m (hex (r,k) (by simp[e])) hl;rw[h.hdr r (hex (r,k) (by simp[e])).some];exact hp r k m e fm
 | path p =>
  intro r k m e hl;obtain⟨fm,ho⟩:=h.live r k m (hex (r,k) (by simp[e])) hl;obtain⟨h1,h2,h3⟩:=hp r k m e fm;have hs:∀ b t,G.own b=.slc r ([]++t)->G'.own b=.slc r ([]++t)/\w'.heap[b]?=w.heap[b]?:=fun b t hb=>⟨ho b t hb,(h.slc r k b _ fm.valid hl.valid hb).2⟩
  refine⟨h1,?_,?_⟩
  ·have:=h2.mono' (q:=[]) (q':=[]) h.frz _ rfl hs
   rw[List.nil_append]at this;exact this
  ·rw[h.hdr r (hex (r,k) (by simp[e])).some]
   exact h3.mono _ _ _ _ _ hs
theorem allow.mono (h:Fr σ G w dT G' w'){deps:List (Nat×Nat)}(hex:∀ z∈deps,jB σ z.1 z.2)(hv:∀ z∈deps,lY dT z.1 z.2){b:Nat}(hb:allow G deps b)(hlt:b<w.heap.size) :
  allow G' deps b/\w'.heap[b]?=w.heap[b]?:=by
 rcases hb with hb|⟨r,k,p,hm,hb⟩
 ·exact⟨.inl (h.frz b hb hlt).1,(h.frz b hb hlt).2⟩
 ·have zy:=hv (r,k) hm
  have:=h.slc r k b p (h.valid r k (hex (r,k) hm) zy) zy hb;exact⟨this.1.elim (fun e=>.inr ⟨r,k,p,hm,e⟩) .inl,this.2⟩
mutual
theorem aB.mono (h:Fr σ G w dT G' w'):∀ (l:aR) (v:Value),aB σ ρ G w l v->aB dT ρ G' w' l v
 |.dead,_,hl=>by simpa[aB] using hl
 |.sc x,v,hl=>by simpa[aB] using hl
 |.su g x,v,hl=>by simpa[aB] using hl
 | .ex r, v, hl => by
  simp only[aB]at hl ⊢;exact⟨by rw[h.hdr r hl.2.1];exact hl.1,h.keep _ hl.2.1,hl.2.2⟩
 | .sn deps p nie x, v, hl => by
  simp only[aB]at hl ⊢;refine⟨⟨hl.1.1,fun z hz=>h.known _ _ (hl.1.2 z hz)⟩,fun hv=>?_⟩;obtain⟨h1,h2,h3⟩:=hl.2 (fun z hz=>h.valid _ _ (hl.1.2 z hz) (hv z hz));exact⟨h1.mono' fun b hb hlt=>allow.mono h hl.1.2 hv hb hlt,h2,h3.mono h hl.1.2⟩
 | .px b off, v, hl => by
  simp only[aB]at hl ⊢;exact⟨by rw[h.bx b hl.2];exact hl.1,h.keep _ hl.2⟩
 | .pe l sz i off, v, hl => by
  simp only[aB]at hl ⊢;obtain⟨a,n,c,k,iv,h1,h2⟩:=hl;exact⟨a,n,c,k,iv,aB.mono h l _ h1,h2⟩
 | .rp deps sz x, v, hl => by
  simp only[aB]at hl ⊢;refine⟨⟨hl.1.1,fun z hz=>h.known _ _ (hl.1.2 z hz)⟩,fun hv=>?_⟩
  rcases hl.2 (fun z hz=>h.valid _ _ (hl.1.2 z hz) (hv z hz)) with h1|⟨a,row,h1,h2,h3⟩
  ·exact .inl h1
  ·exact .inr ⟨a,row,h1,h2,h3.mono' fun b hb hlt=>allow.mono h hl.1.2 hv hb hlt⟩
 |.pn,v,hl=>by simpa[aB] using hl
 | .clo f fj, v, hl => by
  simp only[aB]at hl ⊢;obtain⟨vs,h1,h2⟩:=hl;exact⟨vs,h1,aG.mono h fj vs h2⟩
theorem aG.mono (h:Fr σ G w dT G' w'):∀ (ls:List aR) (vs:List Value),aG σ ρ G w ls vs->aG dT ρ G' w' ls vs
 |[],vs,hl=>by simpa[aG] using hl
 | l :: ls, vs, hl => by
  simp only[aG]at hl ⊢;obtain⟨u,us,e,h1,h2⟩:=hl;exact⟨u,us,e,aB.mono h l u h1,aG.mono h ls us h2⟩
end
theorem iI.mono (h:Fr σ G w dT G' w'):∀ (ts:List (Bool×List aR)) (us:List Value),iI σ ρ G w ts us->iI dT ρ G' w' ts us
 |[],_,ht=>ht
 | (a, ls) :: r, us, ht => by
  obtain⟨u,da,vs,e,h1,h2,h3⟩:=ht;exact⟨u,da,vs,e,aG.mono h ls vs h1,h2,iI.mono h r da h3⟩
theorem bY.mono (h:Fr σ G w dT G' w'){v:SV}{u:Value}(hv:bY σ ρ G w v u):bY dT ρ G' w' v u:=by
 cases v with
 |dead=>trivial
 |one l=>exact aB.mono h l u hv
 |agg ls=>obtain⟨vs,e,h1⟩:=hv;exact⟨vs,e,aG.mono h ls vs h1⟩
 |tup ts=>obtain⟨us,e,h1⟩:=hv;exact⟨us,e,iI.mono h ts us h1⟩
end
def Ua7 (σ:Nat->Option aS)(k:Nat)(c:aS):Nat->Option aS:=fun j=>if j=k then some c else σ j
def upds (σ:Nat->Option aS):List (Nat×aS)->Nat->Option aS
 |[]=>σ
 |(k,c)::r=>upds (Ua7 σ k c) r
theorem pX:∀ (u:List (Nat×aS)) (σ:Nat->Option aS) (k:Nat) (c:aS),upds σ u k=some c->(k,c)∈u\/((∀ c',(k,c')∉u)/\σ k=some c)
 |[],σ,k,c,h=>.inr ⟨by simp,h⟩
 | (k', c') :: r, σ, k, c, h => by
  rcases pX r (Ua7 σ k' c') k c h with h1|⟨h1,h2⟩
  ·exact .inl (Zby _ h1)
  ·unfold Ua7 at h2
   split at h2
   ·rename_i e
    obtain rfl:=Option.some.inj h2;exact .inl (by rw[e];exact Zb5)
   ·rename_i e
    refine .inr ⟨fun c'' hc=>?_,h2⟩
    rcases List.mem_cons.1 hc with h3|h3
    ·exact e (Prod.mk.inj h3).1
    ·exact h1 _ h3
theorem eP:∀ (u:List (Nat×aS)) (σ:Nat->Option aS) (k:Nat),(∀ c,(k,c)∉u)->upds σ u k=σ k
 |[],_,_,_=>rfl
 | (k', c') :: r, σ, k, h => by
  rw[upds,eP r _ k fun c hc=>h c (Zby _ hc)];unfold Ua7;rw[if_neg];intro e;exact h c' (by rw[e];exact Zb5)
theorem dX:∀ (u:List (Nat×aS)) (σ:Nat->Option aS) (k:Nat),(σ k).isSome\/(∃ c,(k,c)∈u)->(upds σ u k).isSome
 | [], σ, k, h => by
  rcases h with h|⟨c,hc⟩
  ·exact h
  ·simp at hc
 | (k', c') :: r, σ, k, h => by
  refine dX r _ k ?_;unfold Ua7
  rcases h with h|⟨c,hc⟩
  ·exact .inl (by split<;>simp_all)
  ·rcases List.mem_cons.1 hc with h1|h1
   ·exact .inl (by rw[if_pos (Prod.mk.inj h1).1];rfl)
   ·exact .inr ⟨c,h1⟩
section
variable {n:Nat} {F:bG} {σ:Nat->Option aS} {ρ:List D} {a a':Act} {w w':World} {G G':Gh}
theorem R.upd (h:R n F σ ρ a w G)(u:List (Nat×aS))(ej:Fr σ G w (upds σ u) G' w')(df:a'.tmps.size=n)(hd:a'.defers=[])
  (hF:mJ F G' w')
  (htm:∀ t,(∀ c,(kT t,c)∉u)->Aa7 n a' F.gh t=Aa7 n a F.gh t)
  (gb:∀ b ro ls,σ (kB b)=some (.box ro ls)->(∀ c,(kB b,c)∉u)->G'.own (G.bx b).block=G.own (G.bx b).block/\w'.heap[(G.bx b).block]?=w.heap[(G.bx b).block]?)
  (wv:∀ b ls,(kB b,.box false ls)∈u->(G'.bx b).block<F.w0.heap.size->F.own0 (G'.bx b).block=.box b->F.rng b=((G'.bx b).off,(G'.bx b).off+ls.length))
  (gn:∀ k c,(k,c)∈u->upds σ u k=some c->Dbn n F.gh (upds σ u) ρ G' a' w' k c):R n F (upds σ u) ρ a' w' G':=by
 refine⟨df,hd,fun k c hk=>?_,hF,fun b ls hk hb ho=>?_⟩
 ·rcases pX u σ k c hk with h1|⟨h1,h2⟩
  ·exact gn k c h1 hk
  ·cases c with
   | slot g v =>
    obtain⟨t,rfl,hv⟩:=h.cont k _ h2;refine⟨t,rfl,fun hg=>?_⟩;rw[htm t h1];exact (hv hg).mono ej
   | box ro ls =>
    obtain⟨b,rfl,h3,h4,h5⟩:=h.cont k _ h2;obtain⟨h6,h7⟩:=gb b ro ls h2 h1;have e:G'.bx b=G.bx b:=ej.bx b (by rw[h2];rfl);refine⟨b,rfl,by rw[e];exact h3,by rw[e,h6];exact h4,fun j l hj=>?_⟩;obtain⟨v,h8,h9,cQ⟩:=h5 j l hj;rw[e];exact⟨v,(eU (w:=w) (w':=w') (by rw[add_block];exact h7)).trans h8,(kN (w:=w) (w':=w') (by rw[add_block];exact h7)).trans h9,aB.mono ej l v cQ⟩
   | root x m bc st =>
    obtain⟨r,rfl,h0,h3⟩:=h.cont k _ h2;refine⟨r,rfl,ej.keep _ h0,?_⟩;have e:G'.hdr r=G.hdr r:=ej.hdr r h0
    cases st with
    | live =>
     have fm:yZ (upds σ u) r bc m:=⟨x,hk⟩;obtain⟨hl,ho⟩:=ej.live r bc m ⟨x,m,bc,.live,h2,fun _=>Nat.le_refl _⟩ fm;have:=Rp.mono' (q:=[]) (q':=[]) h3 ej.frz [] rfl (fun b t hb=>⟨ho b t hb,(ej.slc r bc b _ hl.valid fm.valid hb).2⟩);simp only[bP];rw[e];simpa using this
    | frozen =>
     simp only[bP];rw[e];exact⟨h3.1.mono' ej.frz,fun b p hb=>h3.2 b p (ej.froz r x m bc h2 b p hb)⟩
    |gone=>trivial
    | fwd r' =>
     obtain⟨h4,h5⟩:=h3;exact⟨by rw[e,ej.hdr r' h5];exact h4,ej.keep _ h5⟩
 ·rcases pX u σ _ _ hk with h1|⟨h1,h2⟩
  ·exact wv b ls h1 hb ho
  ·have e:G'.bx b=G.bx b:=ej.bx b (by rw[h2];rfl)
   rw[e]at hb ho ⊢;exact h.rng b ls h2 hb ho
theorem Baz (a:Act)(d:Option Tmp)(v:Value):(a.put d v).tmps.size=a.tmps.size:=by
 cases d<;>simp[Act.put]
theorem put_defers (a:Act)(d:Option Tmp)(v:Value):(a.put d v).defers=a.defers:=by
 cases d<;>simp[Act.put]
theorem Ga3 (n:Nat)(a:Act)(G:Nat->Value)(d t:Nat)(v:Value)(h:d≠t):Aa7 n (a.put (some d) v) G t=Aa7 n a G t:=by
 unfold Aa7;split
 ·simp[Act.put,Acx,Array.getElem?_setIfInBounds,h]
 ·rfl
theorem oF (n:Nat)(a:Act)(G:Nat->Value)(d:Nat)(v:Value)(h:d<n)(hs:a.tmps.size=n):Aa7 n (a.put (some d) v) G d=v:=by
 unfold Aa7;rw[if_pos h];simp[Act.put,Acx,hs,h]
theorem Fr.same (σ:Nat->Option aS)(G:Gh)(w:World)(u:List (Nat×aS))(hu:∀ k c,(k,c)∈u->∃ t,k=kT t):Fr σ G w (upds σ u) G w:=by
 have hr:∀ r,upds σ u (kR r)=σ (kR r):=fun r=>eP _ _ _ fun c hc=>by obtain⟨t,e⟩:=hu _ _ hc;exact iM e.symm
 refine⟨fun b h _=>⟨h,rfl⟩,fun r k _ h=>?_,fun r k h=>?_,fun r k b p _ _ h=>⟨.inl h,rfl⟩,fun r k m _ h=>⟨?_,fun b p h=>h⟩,fun _ _=>rfl,fun _ _=>rfl,fun k h=>dX _ _ _ (.inl h),fun _ _ _ _ _ _ _ h=>h⟩
 ·obtain⟨x,m,st,e,h⟩:=h
  exact⟨x,m,st,by rw[<- hr];exact e,h⟩
 ·obtain⟨x,m,bc,st,e,h⟩:=h
  exact⟨x,m,bc,st,by rw[hr];exact e,h⟩
 ·obtain⟨x,e⟩:=h
  exact⟨x,by rw[<- hr];exact e⟩
def dS (o:Oper)(g:Option (aK×Bool))(v:SV):List (Nat×aS):=match o.dst with|some d=>[(kT d,.slot g v)]|none=>[]
theorem R.pure (h:R n F σ ρ a w G)(o:Oper)(hd:∀ d,o.dst=some d->d<n)(g:Option (aK×Bool))(sv:SV)(v:Value)
  (hv:gOn ρ g=true->bY σ ρ G w sv v):R n F (upds σ (dS o g sv)) ρ (a.put o.dst v) w G:=by
 have ej:Fr σ G w (upds σ (dS o g sv)) G w:=Fr.same _ _ _ _ fun k c hk=>by
  unfold dS at hk;split at hk
  ·rename_i d e
   simp only[Zb0,Prod.mk.injEq]at hk;exact⟨d,hk.1⟩
  ·simp at hk
 refine h.upd _ ej (by rw[Baz];exact h.tmps) (by rw[put_defers];exact h.defers) h.frame (fun t ht=>?_) (fun _ _ _ _ _=>⟨rfl,rfl⟩) (fun b ls hb=>?_) (fun k c hk jt=>?_)
 ·unfold dS at ht
  cases e:o.dst with
  |none=>rfl
  | some d =>
   rw[e]at ht;exact Ga3 _ _ _ _ _ _ fun e'=>ht _ (by rw[e'];exact List.mem_singleton.2 rfl)
 ·unfold dS at hb
  split at hb
  ·simp only[Zb0,Prod.mk.injEq]at hb
   exact absurd hb.1.symm lQ
  ·simp at hb
 ·have zw:=hk
  unfold dS at hk
  cases e:o.dst with
  |none=>rw[e]at hk;simp at hk
  | some d =>
   rw[e]at hk;simp only[Zb0,Prod.mk.injEq]at hk;obtain⟨rfl,rfl⟩:=hk;refine⟨d,rfl,fun hg=>?_⟩;rw[oF _ _ _ _ _ (hd d e) h.tmps];exact (hv hg).mono ej
end
end Go.Proofs.YtcbkmmhkccnamaaGreat.Rf
