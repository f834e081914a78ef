import Derived.Calls
import Derived.Laws.Sem
set_option linter.all false
open Array renaming getD_eq_getD_getElem? → Pb3
open List renaming mem_singleton → Ob3, mem_cons → Ob8, mem_cons_of_mem → Pbb, append_assoc → Pbd, mem_cons_self → Pbf, replicate → Pbp, getElem?_eq_none → Qbr
open Nat renaming lt_or_ge → Pbo, blt → Qbg, testBit → Rbb, le_succ → Rbo
open Option renaming bind_eq_some_iff → Oby, bind_some → Ob6, map_some → Pb6
open Prod.mk renaming injEq → Pbl, inj → Qb9
namespace Go.Proofs.YtcbkmmhkccnamaaGreat.Rf
inductive D where
 |int (k:IntKind) (n:Int)
 |bool (b:Bool)
 |str (s:List UInt8)
 |rows (sz:Nat) (rs:List (List D))
 |undef
 |hole
 deriving Inhabited
inductive aI where
 |v (i:Nat)
 |c (d:D)
 deriving Inhabited
def aI.val (ρ:List D):aI->D
 |.v i=>ρ.getD i .undef
 |.c d=>d
def aI.ok (n:Nat):aI->Prop
 |.v i=>i<n
 |.c _=>True
theorem aI.val_append {n:Nat}{ρ fw:List D}{x:aI}(h:x.ok ρ.length):x.val (ρ++fw)=x.val ρ:=by
 cases x with
 |c d=>rfl
 | v i =>
  simp only[aI.ok]at h;simp[aI.val,List.getD_eq_getElem?_getD,List.getElem?_append_left h]
inductive aY where
 |bin (op:BinOp)
 |eqb (neg:Bool)
 |not | neg | inv
 |conv (k:IntKind)
 |len | slen
 |row (sz off:Nat) (ks:List Bool)
 |inb
 |set (sz off n:Nat)
 |app (sz bytes:Nat) (fl:Bool)
 |mk (sz n:Nat)
 |make (bytes:Nat) (zero:List D)
 |sub (sz:Nat) (fl:Bool)
 |ssub
 |pick
 |eqs (ks:List Nat)
 |min | max
 |bstr
 |sidx
 |sid
 |ne
 |emp
 |one (sz:Nat)
 |dep (m:Nat)
 |clr (sz:Nat)
 |id
 deriving Inhabited
def iF:Nat:=140737488355328
def zU (op:BinOp)(k:IntKind)(a b:Int):Option D :=
 match op with
 |.add=>some (.int k (k.wrap (a+b)))
 |.sub=>some (.int k (k.wrap (a-b)))
 |.mul=>some (.int k (k.wrap (a*b)))
 |.quo=>if b=0 then none else some (.int k (k.wrap (a.tdiv b)))
 |.rem=>if b=0 then none else some (.int k (a.tmod b))
 |.and=>some (.int k (k.wrap (BitVec.ofInt k.bits a &&& BitVec.ofInt k.bits b).toNat))
 |.or=>some (.int k (k.wrap (BitVec.ofInt k.bits a ||| BitVec.ofInt k.bits b).toNat))
 |.xor=>some (.int k (k.wrap (BitVec.ofInt k.bits a ^^^ BitVec.ofInt k.bits b).toNat))
 |.andNot=>some (.int k (k.wrap (BitVec.ofInt k.bits a &&& ~~~ (BitVec.ofInt k.bits b)).toNat))
 |.eql=>some (.bool (a==b))
 |.neq=>some (.bool (a != b))
 |.lss=>some (.bool (a<b))
 |.leq=>some (.bool (a<=b))
 |.gtr=>some (.bool (a>b))
 |.geq=>some (.bool (a ≥ b))
 |_=>none
def Taw (op:BinOp)(k:IntKind)(a b:Int):Option D :=
 if b<0 then none else
 match op with
 |.shl=>some (.int k (k.wrap (a*2 ^ (min b.toNat k.bits))))
 |.shr=>some (.int k (a.fdiv (2 ^ (min b.toNat k.bits))))
 |_=>none
def Dbj (op:BinOp)(a b:List UInt8):Option D :=
 match op with
 |.add=>if a.length+b.length<=4611686018427387904 then some (.str (a++b)) else none
 |.eql=>some (.bool (a==b))
 |.neq=>some (.bool (!(a==b)))
 |.lss=>some (.bool (Op.bytesLess a b))
 |.leq=>some (.bool (Op.bytesLess a b||a==b))
 |.gtr=>some (.bool (!(Op.bytesLess a b||a==b)))
 |.geq=>some (.bool (!(Op.bytesLess a b)))
 |_=>none
def Ma8 (op:BinOp):D->D->Option D
 | .int k a, .int k' b =>
  match op with
  |.shl | .shr=>Taw op k a b
  |_=>if k=k' then zU op k a b else none
 |.str a,.str b=>Dbj op a b
 |_,_=>none
def eqD:Nat->D->D->Option Bool
 |0,.int k a,.int k' b=>if k=k' then some (a==b) else none
 |1,.bool a,.bool b=>some (a==b)
 |2,.str a,.str b=>some (a==b)
 |_,_,_=>none
def Nad:List Nat->List D->List D->Option Bool
 |[],[],[]=>some true
 |k::ks,a::as,b::bs=>(eqD k a b).bind fun x=>if x then Nad ks as bs else some false
 |_,_,_=>none
def chunk (sz:Nat):Nat->List D->List (List D)
 |0,_=>[]
 |n+1,l=>l.take sz::chunk sz n (l.drop sz)
def bytesOf:List (List D)->Option (List UInt8)
 |[]=>some []
 |[.int .u8 n]::r=>(bytesOf r).map fun l=>UInt8.ofNat n.toNat::l
 |_=>none
def Eb0 (op:BinOp):D->D->Option D
 |.int k a,.int k' b=>if k=k' then some (.int k (if (match op with | .lss=>b<a | _=>b>a:Bool) then b else a)) else none
 |_,_=>none
def Jam (op:BinOp):D->List D->Option D
 |x,[]=>some x
 |x,y::r=>(Eb0 op x y).bind fun z=>Jam op z r
def D.isSc:D->Bool
 |.int _ _=>true
 |.bool _=>true
 |.str _=>true
 |_=>false
def mY:Nat->D->Bool
 |_,.hole=>true
 |0,d=>d.isSc
 |m+1,.rows _ rs=>rs.all fun r=>r.all fun d=>mY m d
 |_+1,d=>d.isSc
def Bad:List Bool->List D->Bool
 |[],_=>true
 |k::ks,d::ds=>(!k||d.isSc)&&Bad ks ds
 |_::_,[]=>false
def aY.run:aY->List D->Option (List D)
 |.bin op,[a,b]=>(Ma8 op a b).map fun d=>[d]
 |.eqb ng,[.bool a,.bool b]=>some [.bool (if ng then !(a==b) else a==b)]
 |.not,[.bool b]=>some [.bool (!b)]
 |.neg,[.int k n]=>some [.int k (k.wrap (0-n))]
 |.inv,[.int k n]=>(zU .xor k (if k.signed then -1 else k.max) n).map fun d=>[d]
 |.conv k,[.int _ n]=>some [.int k (k.wrap n)]
 |.len,[.rows _ rs]=>some [.int .i64 rs.length]
 |.slen,[.str s]=>some [.int .i64 s.length]
 | .row sz off ks, [.rows ob rs, .int _ i] =>
  if ob=sz/\0<=i then match rs[i.toNat]? with
   |some r=>if off+ks.length<=r.length/\Bad ks (r.drop off)=true then some ((r.drop off).take ks.length) else none
   |none=>none
  else none
 |.inb,[.rows _ rs,.int _ i]=>if 0<=i/\i<rs.length then some [] else none
 | .set sz off n, .rows ob rs :: .int _ i :: vs =>
  if ob=sz/\0<=i then match rs[i.toNat]? with
   |some r=>if off+n<=r.length/\vs.length=n then some [.rows sz (rs.set i.toNat (r.take off++vs++r.drop (off+n)))] else none
   |none=>none
  else none
 |.app sz bytes fl,[.rows ob a,.rows sz'' b]=>if ob=sz/\sz''=sz/\(!fl||(a++b).all fun r=>r.all D.isSc)=true/\(a.length+b.length)*bytes<=iF then some [.rows sz (a++b)] else none
 |.mk sz n,vs=>if vs.length=n*sz then some [.rows sz (chunk sz n vs)] else none
 |.make bytes zero,[.int _ n]=>if 0<=n/\n.toNat*bytes<=iF then some [.rows zero.length (Pbp n.toNat zero)] else none
 |.sub sz fl,[.rows ob rs,.int _ lo,.int _ hi]=>if ob=sz/\(!fl||rs.all fun r=>r.all D.isSc)=true/\0<=lo/\lo<=hi/\hi<=rs.length then some [.rows sz ((rs.take hi.toNat).drop lo.toNat)] else none
 |.ssub,[.str s,.int _ lo,.int _ hi]=>if 0<=lo/\lo<=hi/\hi<=s.length then some [.str ((s.take hi.toNat).drop lo.toNat)] else none
 |.pick,[.bool c,a,b]=>some [if c then a else b]
 |.eqs ks,vs=>(Nad ks (vs.take ks.length) (vs.drop ks.length)).map fun b=>[.bool b]
 |.min,x::r=>(Jam .lss x r).map fun d=>[d]
 |.max,x::r=>(Jam .gtr x r).map fun d=>[d]
 |.bstr,[.rows _ rs]=>(bytesOf rs).map fun l=>[.str l]
 | .sidx, [.str s, .int _ i] => if 0 <= i then match s[i.toNat]? with
   |some b=>some [.int .u8 b.toNat]
   |none=>none
  else none
 |.ne,[.rows _ rs]=>if rs.isEmpty then none else some []
 |.emp,[.rows _ rs]=>some [.bool rs.isEmpty]
 |.dep m,[d]=>if mY m d then some [] else none
 |.id,[a]=>some [a]
 |.clr sz,[.rows ob rs,.int _ i]=>if ob=sz/\0<=i then some [.rows sz (rs.take i.toNat++(rs.drop i.toNat).map fun r=>r.map fun _=>.hole)] else none
 |.sid,[.str s]=>some [.str s]
 | .one sz, [.rows ob rs, .int _ i] => if ob = sz /\ 0 <= i then match rs[i.toNat]? with
   |some r=>some [.rows sz [r]]
   |none=>none
  else none
 |_,_=>none
inductive Kind where
 |fall | exit (id:Nat) | ret | cont | yield (i:Nat)
 deriving DecidableEq,Inhabited
inductive Tm (β:Type) where
 |leaf (kind:Kind) (xs:List aI) (ext:β)
 |stuck
 |lt (g:Option (aI×Bool)) (p:aY) (xs:List aI) (n:Nat) (k:Tm β)
 |call (g:Option (aI×Bool)) (f:Nat) (xs:List aI) (n:Nat) (olds:List aI) (k:Tm β)
 |ite (c:aI) (t e:Tm β)
 |bind (i:Nat) (t k:Tm β)
 |loop (init:List aI) (body:Tm β)
 deriving Inhabited
structure Out (β:Type) where
 kind:Kind
 xs:List aI
 ext:β
 env:List D
def Out.vals {β:Type}(o:Out β):List D:=o.xs.map (·.val o.env)
def gOn (ρ:List D):Option (aI×Bool)->Bool
 |none=>true
 | some (x, w) => match x.val ρ with
  |.bool b=>b==w
  |_=>false
def iter {β:Type}:Nat->(List D->Option (Out β))->List D->Option (Out β)
 |0,_,_=>none
 |n+1,f,vs=>(f vs).bind fun o=>if o.kind=.cont then iter n f o.vals else some o
def runT {β:Type}(cf:Nat->List D->Option (List D))(fuel:Nat):Tm β->List D->Option (Out β)
 |.leaf k xs e,ρ=>some ⟨k,xs,e,ρ⟩
 |.stuck,_=>none
 | .lt g p xs n k, ρ =>
  if gOn ρ g then (p.run (xs.map (·.val ρ))).bind fun ds=>if ds.length=n then runT cf fuel k (ρ++ds) else none
  else runT cf fuel k (ρ++Pbp n .undef)
 | .call g f xs n olds k, ρ =>
  if gOn ρ g then (cf f (xs.map (·.val ρ))).bind fun ds=>if ds.length=n then runT cf fuel k (ρ++ds) else none
  else runT cf fuel k (ρ++(Pbp (n-olds.length) .undef++olds.map (·.val ρ)))
 | .ite c t e, ρ => match c.val ρ with
  |.bool true=>runT cf fuel t ρ
  |.bool false=>runT cf fuel e ρ
  |_=>none
 |.bind i t k,ρ=>(runT cf fuel t ρ).bind fun o=>if o.kind=.yield i then runT cf fuel k (ρ++o.vals) else some o
 |.loop init body,ρ=>iter fuel (fun vs=>runT cf fuel body (ρ++vs)) (init.map (·.val ρ))
inductive Ent where
 |tm (t:Tm Unit)
 |ext (f:List D->Option (List D))
 |none
def Bbe {β:Type}(o:Out β):Option (List D):=if o.kind=.ret then some o.vals else none
def jE (T:Nat->Ent):Nat->Nat->List D->Option (List D)
 |0,_,_=>none
 | n + 1, f, args => match T f with
  |.tm t=>(runT (jE T n) n t args).bind Bbe
  |.ext e=>e args
  |.none=>none
def Nae {α:Type}(a:Nat->Option α):Prop:=∀ n r,a n=some r->a (n+1)=some r
theorem Nae.le {α:Type}{a:Nat->Option α}(h:Nae a){n m:Nat}{r:α}(hn:n<=m)(hr:a n=some r):a m=some r:=by
 induction hn with
 |refl=>exact hr
 |step _ ih=>exact h _ _ ih
open Classical in
noncomputable def lim {α:Type}(a:Nat->Option α):Option α :=
 if h:∃ r n,a n=some r then some h.choose else none
theorem fK {α:Type}{a:Nat->Option α}(h:Nae a){r:α}:lim a=some r↔∃ n,a n=some r:=by
 unfold lim;constructor
 ·intro e
  split at e
  ·rename_i hx
   obtain⟨n,hn⟩:=hx.choose_spec;cases e;exact⟨n,hn⟩
  ·cases e
 ·rintro⟨n,hn⟩
  have hx:∃ r n,a n=some r:=⟨r,n,hn⟩;rw[dif_pos hx];obtain⟨m,hm⟩:=hx.choose_spec;have h1:=h.le (Nat.le_max_left n m) hn;have h2:=h.le (Nat.le_max_right n m) hm;rw[h1]at h2;exact h2.symm
theorem Yar {α:Type}{a:Nat->Option α}(h:∀ n,a n=none):lim a=none:=by
 unfold lim;rw[dif_neg]
 rintro⟨r,n,hn⟩
 rw[h]at hn;cases hn
theorem fM {α:Type}(x:Option α):lim (fun _=>x)=x:=by
 cases x with
 |none=>exact Yar fun _=>rfl
 |some r=>exact (fK (a:=fun _=>some r) fun _ _ h=>h).2 ⟨0,rfl⟩
theorem Nae.bind {α γ:Type}{a:Nat->Option α}{b:Nat->α->Option γ}(ha:Nae a)(hb:∀ x,Nae fun n=>b n x):Nae fun n=>(a n).bind (b n):=by
 intro n r h;simp only[Oby]at h ⊢;obtain⟨x,hx,hr⟩:=h;exact⟨x,ha _ _ hx,hb x _ _ hr⟩
theorem Dai {α γ:Type}{a:Nat->Option α}{b:Nat->α->Option γ}(ha:Nae a)(hb:∀ x,Nae fun n=>b n x) :
  lim (fun n=>(a n).bind (b n))=(lim a).bind fun x=>lim fun n=>b n x:=by
 apply Option.ext;intro r;rw[fK (ha.bind hb)];simp only[Oby];constructor
 ·rintro⟨n,x,hx,hr⟩
  exact⟨x,(fK ha).2 ⟨n,hx⟩,(fK (hb x)).2 ⟨n,hr⟩⟩
 ·rintro⟨x,hx,hr⟩
  obtain⟨n,hn⟩:=(fK ha).1 hx;obtain⟨m,hm⟩:=(fK (hb x)).1 hr;exact⟨max n m,x,ha.le (Nat.le_max_left ..) hn,(hb x).le (Nat.le_max_right ..) hm⟩
def Le {α γ:Type}(f g:α->Option γ):Prop:=∀ x r,f x=some r->g x=some r
theorem lC {β:Type}{f g:List D->Option (Out β)}(h:Le f g):∀ {n m:Nat},n<=m->Le (iter n f) (iter m g)
 |0,_,_,_,_,hr=>by cases hr
 |n+1,0,qS,_,_,_=>absurd qS (by omega)
 | n + 1, m + 1, qS, vs, r, hr => by
  simp only[iter,Oby]at hr ⊢;obtain⟨o,ho,hr⟩:=hr;refine⟨o,h _ _ ho,?_⟩;split at hr
  ·rename_i hk
   rw[if_pos hk];exact lC h (by omega) _ _ hr
  ·rename_i hk
   rw[if_neg hk];exact hr
theorem Eal {β:Type}{cf cg:Nat->List D->Option (List D)}(h:∀ f,Le (cf f) (cg f)){n m:Nat}(qS:n<=m)(t:Tm β):Le (runT cf n t) (runT cg m t):=by
 induction t with
 |leaf=>exact fun _ _ h=>h
 |stuck=>exact fun _ _ h=>h
 | lt g p xs k' k ih =>
  intro ρ r hr;simp only[runT]at hr ⊢;split at hr
  ·rename_i hg
   rw[if_pos hg];simp only[Oby]at hr ⊢;obtain⟨ds,hd,hr⟩:=hr;refine⟨ds,hd,?_⟩;split at hr
   ·rename_i hl;rw[if_pos hl];exact ih _ _ hr
   ·cases hr
  ·rename_i hg
   rw[if_neg hg];exact ih _ _ hr
 | call g f xs k' olds k ih =>
  intro ρ r hr;simp only[runT]at hr ⊢;split at hr
  ·rename_i hg
   rw[if_pos hg];simp only[Oby]at hr ⊢;obtain⟨ds,hd,hr⟩:=hr;refine⟨ds,h _ _ _ hd,?_⟩;split at hr
   ·rename_i hl;rw[if_pos hl];exact ih _ _ hr
   ·cases hr
  ·rename_i hg
   rw[if_neg hg];exact ih _ _ hr
 | ite c t e xy ihe =>
  intro ρ r hr;simp only[runT]at hr ⊢;split at hr
  ·exact xy _ _ hr
  ·exact ihe _ _ hr
  ·cases hr
 | bind i t k xy ihk =>
  intro ρ r hr;simp only[runT,Oby]at hr ⊢;obtain⟨o,ho,hr⟩:=hr;refine⟨o,xy _ _ ho,?_⟩;split at hr
  ·rename_i hk;rw[if_pos hk];exact ihk _ _ hr
  ·rename_i hk;rw[if_neg hk];exact hr
 | loop init body ih =>
  intro ρ r hr;simp only[runT]at hr ⊢;exact lC (fun vs r hr=>ih _ _ hr) qS _ _ hr
theorem Bap (T:Nat->Ent):∀ {n m:Nat},n<=m->∀ f,Le (jE T n f) (jE T m f)
 |0,_,_,_,_,_,hr=>by cases hr
 |n+1,0,qS,_,_,_,_=>absurd qS (by omega)
 | n + 1, m + 1, qS, f, args, r, hr => by
  simp only[jE]at hr ⊢;split at hr
  ·simp only[Oby]at hr ⊢
   obtain⟨o,ho,hr⟩:=hr;exact⟨o,Eal (fun f=>Bap T (by omega) f) (by omega) _ _ _ ho,hr⟩
  ·exact hr
  ·cases hr
section
variable (T:Nat->Ent)
noncomputable def Fun (f:Nat)(args:List D):Option (List D):=lim fun n=>jE T n f args
noncomputable def Ev {β:Type}(t:Tm β)(ρ:List D):Option (Out β):=lim fun n=>runT (jE T n) n t ρ
noncomputable def Lp {β:Type}(body:Tm β)(ρ vs:List D):Option (Out β):=lim fun n=>iter n (fun vs=>runT (jE T n) n body (ρ++vs)) vs
variable {T}
theorem Fbl (f:Nat)(args:List D):Nae fun n=>jE T n f args:=fun n _ h=>Bap T (Rbo n) f _ _ h
theorem Za0 {β:Type}(t:Tm β)(ρ:List D):Nae fun n=>runT (jE T n) n t ρ:=fun n _ h=>Eal (fun f=>Bap T (Rbo n) f) (Rbo n) t _ _ h
theorem Obx {β:Type}(body:Tm β)(ρ vs:List D):Nae fun n=>iter n (fun vs=>runT (jE T n) n body (ρ++vs)) vs :=
 fun n _ h=>lC (fun vs r hr=>Za0 body _ n r hr) (Rbo n) _ _ h
theorem Dap {f:Nat}{args r:List D}:Fun T f args=some r↔∃ n,jE T n f args=some r:=fK (Fbl f args)
theorem Ja2 {β:Type}{t:Tm β}{ρ:List D}{o:Out β}:Ev T t ρ=some o↔∃ n,runT (jE T n) n t ρ=some o:=fK (Za0 t ρ)
theorem Cbu {β:Type}(k:Kind)(xs:List aI)(e:β)(ρ:List D):Ev T (.leaf k xs e) ρ=some ⟨k,xs,e,ρ⟩:=fM _
theorem Fbo {β:Type}(g:Option (aI×Bool))(p:aY)(xs:List aI)(n:Nat)(k:Tm β)(ρ:List D) :
  Ev T (.lt g p xs n k) ρ=if gOn ρ g then (p.run (xs.map (·.val ρ))).bind fun ds=>if ds.length=n then Ev T k (ρ++ds) else none
   else Ev T k (ρ++Pbp n .undef):=by
 unfold Ev;simp only[runT];split
 ·rw[Dai (a:=fun _=>p.run _) (fun _ _ h=>h)
   (fun ds=>by split;exact Za0 k _;exact fun _ _ h=>h)]
  rw[fM];congr 1;funext ds;split
  ·rfl
  ·exact fM _
 ·rfl
theorem Wap {β:Type}(g:Option (aI×Bool))(f:Nat)(xs:List aI)(n:Nat)(olds:List aI)(k:Tm β)(ρ:List D) :
  Ev T (.call g f xs n olds k) ρ=if gOn ρ g then (Fun T f (xs.map (·.val ρ))).bind fun ds=>if ds.length=n then Ev T k (ρ++ds) else none
   else Ev T k (ρ++(Pbp (n-olds.length) .undef++olds.map (·.val ρ))):=by
 unfold Ev;simp only[runT];split
 ·rw[Dai (a:=fun n=>jE T n f _) (Fbl f _)
   (fun ds=>by split;exact Za0 k _;exact fun _ _ h=>h)]
  rw[<- Fun];congr 1;funext ds;split
  ·rfl
  ·exact fM _
 ·rfl
theorem Fbp {β:Type}(c:aI)(t e:Tm β)(ρ:List D) :
  Ev T (.ite c t e) ρ=match c.val ρ with
   |.bool true=>Ev T t ρ
   |.bool false=>Ev T e ρ
   |_=>none:=by
 unfold Ev;simp only[runT];split
 ·rfl
 ·rfl
 ·exact fM _
theorem Cbw {β:Type}(i:Nat)(t k:Tm β)(ρ:List D) :
  Ev T (.bind i t k) ρ=(Ev T t ρ).bind fun o=>if o.kind=.yield i then Ev T k (ρ++o.vals) else some o:=by
 unfold Ev;simp only[runT];rw[Dai (a:=fun n=>runT (jE T n) n t ρ) (Za0 t ρ) (fun o=>by split;exact Za0 k _;exact fun _ _ h=>h)];congr 1;funext o;split
 ·rfl
 ·exact fM _
theorem Cbt {β:Type}(init:List aI)(body:Tm β)(ρ:List D):Ev T (.loop init body) ρ=Lp T body ρ (init.map (·.val ρ)):=rfl
theorem Cbq {β:Type}(body:Tm β)(ρ vs:List D) :
  Lp T body ρ vs=(Ev T body (ρ++vs)).bind fun o=>if o.kind=.cont then Lp T body ρ o.vals else some o:=by
 have hm:∀ vs,Nae fun n=>iter n (fun vs=>runT (jE T n) n body (ρ++vs)) vs:=fun vs=>Obx body ρ vs
 unfold Lp
 have e:∀ vs r,(lim fun n=>iter n (fun vs=>runT (jE T n) n body (ρ++vs)) vs)=some r↔((Ev T body (ρ++vs)).bind fun o=>if o.kind=.cont then (lim fun n=>iter n (fun vs=>runT (jE T n) n body (ρ++vs)) o.vals) else some o)=some r:=by
  intro vs r;rw[fK (hm vs)];simp only[Oby];constructor
  ·rintro⟨n,hn⟩
   cases n with
   |zero=>cases hn
   | succ n =>
    simp only[iter,Oby]at hn;obtain⟨o,ho,hr⟩:=hn;refine⟨o,Ja2.2 ⟨n+1,ho⟩,?_⟩;split at hr
    ·rename_i hk
     rw[if_pos hk,fK (hm _)];exact⟨n+1,lC (fun _ _ h=>h) (Rbo n) _ _ hr⟩
    ·rename_i hk
     rw[if_neg hk];exact hr
  ·rintro⟨o,ho,hr⟩
   obtain⟨n,hn⟩:=Ja2.1 ho;split at hr
   ·rename_i hk
    obtain⟨m,nf⟩:=(fK (hm _)).1 hr;refine⟨max n m+1,?_⟩;simp only[iter,Oby];refine⟨o,(Za0 body (ρ++vs)).le (by omega) hn,?_⟩;rw[if_pos hk];exact lC (fun vs r h=>(Za0 body (ρ++vs)).le (by omega) h) (by omega) _ _ nf
   ·rename_i hk
    refine⟨n+1,?_⟩;simp only[iter,Oby];exact⟨o,Za0 body _ _ _ hn,by rw[if_neg hk];exact hr⟩
 exact Option.ext (e vs)
theorem Fbk {f:Nat}{t:Tm Unit}(h:T f=.tm t)(args:List D):Fun T f args=(Ev T t args).bind Bbe:=by
 apply Option.ext;intro r;rw[Dap];simp only[Oby];constructor
 ·rintro⟨n,hn⟩
  cases n with
  |zero=>cases hn
  | succ n =>
   simp only[jE,h,Oby]at hn;obtain⟨o,ho,hr⟩:=hn;exact⟨o,Ja2.2 ⟨n,ho⟩,hr⟩
 ·rintro⟨o,ho,hr⟩
  obtain⟨n,hn⟩:=Ja2.1 ho;refine⟨n+1,?_⟩;simp only[jE,h,Oby];exact⟨o,hn,hr⟩
theorem Wan {f:Nat}{e:List D->Option (List D)}(h:T f=.ext e)(args:List D):Fun T f args=e args:=by
 apply Option.ext;intro r;rw[Dap];constructor
 ·rintro⟨n,hn⟩
  cases n with
  |zero=>cases hn
  |succ n=>simpa[jE,h] using hn
 ·intro hr
  exact⟨1,by simpa[jE,h] using hr⟩
end
def Tm.strip {β:Type}:Tm β->Tm Unit
 |.leaf k xs _=>.leaf k xs ()
 |.stuck=>.stuck
 |.lt g p xs n k=>.lt g p xs n k.strip
 |.call g f xs n olds k=>.call g f xs n olds k.strip
 |.ite c t e=>.ite c t.strip e.strip
 |.bind i t k=>.bind i t.strip k.strip
 |.loop init body=>.loop init body.strip
def Out.strip {β:Type}(o:Out β):Out Unit:=⟨o.kind,o.xs,(),o.env⟩
theorem Out.strip_vals {β:Type}(o:Out β):o.strip.vals=o.vals:=rfl
theorem Hat {β:Type}{f:List D->Option (Out β)}{g:List D->Option (Out Unit)}(h:∀ vs,g vs=(f vs).map Out.strip):∀ n vs,iter n g vs=(iter n f vs).map Out.strip
 |0,_=>rfl
 | n + 1, vs => by
  simp only[iter,h]
  cases f vs with
  |none=>rfl
  | some o =>
   simp only[Pb6,Ob6];by_cases hk:o.kind=.cont
   ·have:o.strip.kind=.cont:=hk
    rw[if_pos hk,if_pos this,Out.strip_vals];exact Hat h n _
   ·have:¬ o.strip.kind=.cont:=hk
    rw[if_neg hk,if_neg this];rfl
theorem Rao {β:Type}(cf:Nat->List D->Option (List D))(n:Nat)(t:Tm β):∀ ρ,runT cf n t.strip ρ=(runT cf n t ρ).map Out.strip:=by
 induction t with
 |leaf=>exact fun _=>rfl
 |stuck=>exact fun _=>rfl
 | lt g p xs k' k ih =>
  intro ρ;simp only[Tm.strip,runT];split
  ·cases p.run (xs.map (·.val ρ)) with
   |none=>rfl
   | some ds =>
    simp only[Ob6];split
    ·exact ih _
    ·rfl
  ·exact ih _
 | call g f xs k' olds k ih =>
  intro ρ;simp only[Tm.strip,runT];split
  ·cases cf f (xs.map (·.val ρ)) with
   |none=>rfl
   | some ds =>
    simp only[Ob6];split
    ·exact ih _
    ·rfl
  ·exact ih _
 | ite c t e xy ihe =>
  intro ρ;simp only[Tm.strip,runT];split
  ·exact xy _
  ·exact ihe _
  ·rfl
 | bind i t k xy ihk =>
  intro ρ;simp only[Tm.strip,runT,xy]
  cases runT cf n t ρ with
  |none=>rfl
  | some o =>
   simp only[Pb6,Ob6];by_cases hk:o.kind=.yield i
   ·have:o.strip.kind=.yield i:=hk
    rw[if_pos hk,if_pos this,Out.strip_vals];exact ihk _
   ·have:¬ o.strip.kind=.yield i:=hk
    rw[if_neg hk,if_neg this];rfl
 | loop init body ih =>
  intro ρ;simp only[Tm.strip,runT];exact Hat (fun vs=>ih _) _ _
inductive Tr (α:Type) where
 |nil
 |node (x:Option α) (l r:Tr α)
 |over (n:Nat) (x:Option α) (t:Tr α)
 deriving Inhabited
def Tr.get {α:Type}:Tr α->Nat->Option α
 |.nil,_=>none
 |.node x l r,n=>bif Nat.beq n 0 then x else bif Nat.beq (n % 2) 1 then l.get (n / 2) else r.get (n / 2-1)
 |.over m x t,n=>bif Nat.beq n m then x else t.get n
def Tr.set {α:Type}:Nat->Tr α->Nat->Option α->Tr α
 |0,t,n,x=>.over n x t
 |k+1,.node y l r,n,x=>bif Nat.beq n 0 then .node x l r else bif Nat.beq (n % 2) 1 then .node y (Tr.set k l (n / 2) x) r else .node y l (Tr.set k r (n / 2-1) x)
 |k+1,.nil,n,x=>bif Nat.beq n 0 then .node x .nil .nil else bif Nat.beq (n % 2) 1 then .node none (Tr.set k .nil (n / 2) x) .nil else .node none .nil (Tr.set k .nil (n / 2-1) x)
 |_+1,.over m y t,n,x=>.over n x (.over m y t)
inductive CK where
 |sc (z:D)
 |sl (sz:Nat)
 |pn
 |ot
 deriving Inhabited
structure TI where
 agg:Bool
 size:Nat
 bytes:Nat
 cells:List CK
 flds:List (Nat×Nat)
 elem:Option Nat
 ik:Option IntKind
 isBool:Bool
 isStr:Bool
 isPtr:Bool
 cmp:Bool
 deriving Inhabited
def flat (P:Program):Nat->TypeId->Option (List TypeId)
 |0,_=>none
 | d + 1, t =>
  match P.underlying t with
  |some (.struct fs)=>fs.toList.foldl (fun acc f=>acc.bind fun l=>(flat P d f.type).bind fun m=>bif Nat.beq f.offset l.length then some (l++m) else none) (some [])
  |some (.array _ _)=>none
  |some _=>some [t]
  |none=>none
def mD (P:Program)(t:TypeId):CK :=
 match P.underlying t with
 |some (.int k)=>.sc (.int k 0)
 |some .bool=>.sc (.bool false)
 |some .string=>.sc (.str [])
 |some (.slice e)=>.sl (((P.info? e).map (·.size)).getD 0)
 |some (.pointer _)=>.pn
 |_=>.ot
def zeroCell:Value->CK->Bool
 |.int k n,.sc (.int k' n')=>decide (k=k')&&decide (n=0)&&decide (n'=0)
 |.bool b,.sc (.bool b')=>decide (b=false)&&decide (b'=false)
 |.string s,.sc (.str l)=>decide (s.data.toList=[])&&decide (l=[])
 |.slice none 0 0,.sl _=>true
 |.pointer none,.pn=>true
 |_,_=>false
def Oa5 (agg:Bool)(z:Option Value)(cs:List CK):Bool :=
 match agg,z,cs with
 |true,some (.agg vs),cs=>vs.toList.length==cs.length&&(vs.toList.zip cs).all fun p=>zeroCell p.1 p.2
 |false,some v,[c]=>zeroCell v c
 |_,_,_=>false
def Ibk (P:Program)(d:Nat)(t:TypeId):Bool :=
 match flat P d t,P.info? t with
 |some l,some i=>Nat.beq l.length i.size
 |_,_=>false
def Jat (P:Program):Nat->TypeId->Bool
 |0,_=>false
 | d + 1, t =>
  match P.underlying t with
  |some (.int _)=>true
  |some .bool=>true
  |some .string=>true
  | some (.struct fs) => !(P.stoodInHeld t) && fs.toList.all fun f => f.name != "_" && Jat P d f.type && Ibk P d f.type
  |_=>false
def Gap:TypeDesc->Bool
 |.struct _=>true
 |.array _ _=>true
 |_=>false
def Vag:TypeDesc->List (Nat×Nat)
 |.struct fs=>fs.toList.map fun f=>(f.offset,f.type)
 |_=>[]
def Vav:TypeDesc->Option Nat
 |.slice e=>some e
 |_=>none
def Ibn:TypeDesc->Option IntKind
 |.int k=>some k
 |_=>none
def Oam:TypeDesc->Bool
 |.bool=>true
 |_=>false
def Uay:TypeDesc->Bool
 |.string=>true
 |_=>false
def Uaz:TypeDesc->Bool
 |.pointer _=>true
 |_=>false
def Jbx (P:Program)(t:TypeId)(i:TypeInfo)(u:TypeDesc)(cs:List CK):TI :=
  { agg:=Gap u,size:=i.size,bytes:=i.bytes,cells:=cs,flds:=Vag u,elem:=Vav u,ik:=Ibn u,isBool:=Oam u,isStr:=Uay u,
    isPtr:=Uaz u,cmp:=Gap u&&Jat P 12 t&&!(P.eqGuardType P.depth t) }
def rM (P:Program)(t:TypeId):Option TI :=
 match P.info? t,P.underlying t,(flat P 12 t).map (·.map (mD P)) with
 |some i,some u,some cs=>bif Nat.beq cs.length i.size&&Oa5 (Gap u) i.zero cs then some (Jbx P t i u cs) else none
 |_,_,_=>none
inductive Pth where
 |no
 |view
 |path (p:List (aI×Nat×Nat))
 |suf (sz:Nat) (lo:aI)
 deriving Inhabited
inductive aM where
 |dead
 |sc (x:aI)
 |su (g:aI×Bool) (x:aI)
 |ex (r:Nat)
 |sn (deps:List (Nat×Nat)) (p:Pth) (nie:Bool) (x:aI)
 |px (b off:Nat)
 |pe (l:aM) (sz:Nat) (i:aI) (off:Nat)
 |rp (deps:List (Nat×Nat)) (sz:Nat) (x:aI)
 |pn
 |clo (f:Nat) (eN:List aM)
 deriving Inhabited
inductive SV where
 |dead
 |one (l:aM)
 |agg (ls:List aM)
 |tup (vs:List (Bool×List aM))
 deriving Inhabited
inductive RSt where
 |live | frozen | gone
 |fwd (r:Nat)
 deriving DecidableEq,Inhabited
inductive aN where
 |slot (g:Option (aI×Bool)) (v:SV)
 |box (ro:Bool) (ls:List aM)
 |root (x:aI) (m aE:Nat) (st:RSt)
 deriving Inhabited
def kT (t:Nat):Nat:=3*t
def kB (b:Nat):Nat:=3*b+1
def kR (r:Nat):Nat:=3*r+2
inductive RdM (α:Type) where
 |ret (a:α)
 |no
 |rd (k:Nat) (f:Option aN->RdM α)
def RdM.bind {α γ:Type}:RdM α->(α->RdM γ)->RdM γ
 |.ret a,f=>f a
 |.no,_=>.no
 |.rd k h,f=>.rd k fun c=>(h c).bind f
instance:Monad RdM:={ pure:=.ret,bind:=.bind }
def RdM.run {α:Type}(look:Nat->Option aN):RdM α->Option (α×List Nat)
 |.ret a=>some (a,[])
 |.no=>none
 |.rd k f=>((f (look k)).run look).map fun x=>(x.1,k::x.2)
def RdM.eval {α:Type}(look:Nat->Option aN):RdM α->Option α
 |.ret a=>some a
 |.no=>none
 |.rd k f=>(f (look k)).eval look
def rdK (k:Nat):RdM (Option aN):=.rd k .ret
def lU {α:Type}:Option α->RdM α
 |some a=>.ret a
 |none=>.no
def bG (b:Bool):RdM Unit:=bif b then .ret () else .no
inductive Step where
 |prim (p:aY) (xs:List aI) (n:Nat)
 |call (f:Nat) (xs:List aI) (n:Nat) (olds:List aI)
 deriving Inhabited
def Step.n:Step->Nat
 |.prim _ _ n=>n
 |.call _ _ n _=>n
structure bI where
 lets:List Step
 upd:List (Nat×aN)
 deriving Inhabited
def bD (l:List Step):Nat:=l.foldl (fun s x=>s+x.n) 0
inductive LS where
 |sc
 |fz (nie:Bool)
 |mu (m:Nat)
 |ow (m:Nat)
 |px (b:Nat)
 |clo (f:Nat) (eN:List LS)
 |rp (sz:Nat)
 deriving Inhabited
inductive BS where
 |sc
 |fz (nie:Bool)
 |ow (m:Nat)
 |ot
 deriving Inhabited
inductive BO where
 |sc
 |fz
 |ow (m:Nat)
 |dead
 deriving Inhabited
inductive LR where
 |sc
 |fz
 |ow (m:Nat)
 |rp (sz:Nat)
 |bx (cells:List BO)
 deriving Inhabited
structure Sig where
 fn:Nat
 params:List (Bool×List LS)
 boxes:List (Bool×List (BS×BO))
 results:List (Bool×List LR)
 deriving Inhabited
structure Env where
 ti:Nat->Option TI
 sigs:List (Nat×Sig)
 ntmps:Nat
 ngh:Nat:=0
 freezeEx:Bool:=false
 moveSn:Bool:=false
 nomv:List (Nat×Nat):=[]
 hints:List (Nat×List (Nat×Nat×Nat×Nat)×List Nat×Nat×List Nat):=[]
 pxs:List Nat:=[]
 nbx:Nat:=0
 deriving Inhabited
def Ibs (a b:IntKind):Bool:=decide (a=b)
def D.beq0:D->D->Bool
 |.int k n,.int k' n'=>Ibs k k'&&decide (n=n')
 |.bool a,.bool b=>a==b
 |.str a,.str b=>a==b
 |.rows s [],.rows s' []=>Nat.beq s s'
 |.undef,.undef=>true
 |.hole,.hole=>true
 |_,_=>false
def aI.beq0:aI->aI->Bool
 |.v i,.v j=>Nat.beq i j
 |.c a,.c b=>a.beq0 b
 |_,_=>false
def Bb3:Option (aI×Bool)->Option (aI×Bool)->Bool
 |none,none=>true
 |some (a,b),some (c,d)=>a.beq0 c&&(b==d)
 |_,_=>false
def fA:CK->aM
 |.sc z=>.sc (.c z)
 |.sl sz=>.sn [] .no true (.c (.rows sz []))
 |.pn=>.pn
 |.ot=>.dead
def Oav (ti:Nat->Option TI)(t:TypeId):Value->Option SV
 |.int k n=>some (.one (.sc (.c (.int k n))))
 |.bool b=>some (.one (.sc (.c (.bool b))))
 |.string s=>some (.one (.sc (.c (.str s.data.toList))))
 | .slice none 0 0 => match ti t with
  |some { cells:=[.sl sz],.. }=>some (.one (.sn [] .no true (.c (.rows sz []))))
  |_=>none
 |.pointer none=>some (.one .pn)
 |_=>none
section
variable (E:Env)
def noG:Option (aI×Bool)->Bool
 |none=>true
 |some _=>false
def unG (g:Option (aI×Bool)):SV->SV
 |.one (.su h x)=>bif Bb3 g (some h) then .one (.sc x) else .one (.su h x)
 |v=>v
def gOk (g:Option (aI×Bool)):Option (aI×Bool)->Bool
 |none=>true
 |g'=>Bb3 g g'
def Lac (g:Option (aI×Bool))(t:TypeId):Operand->RdM SV
 | .tmp k => .rd (kT k) fun
  |some (.slot g' v)=>bif gOk g g'&&Qbg k E.ntmps then .ret (unG g v) else .no
  |_=>.no
 |.const v=>lU (Oav E.ti t v)
 |.func f=>.ret (.one (.clo f []))
 |.global _=>.no
def one:SV->RdM aM
 |.one l=>.ret l
 |_=>.no
def rdL (g:Option (aI×Bool))(t:TypeId)(x:Operand):RdM aM:=do one (<- Lac E g t x)
def rV (g:Option (aI×Bool)):aM->Option aI
 |.sc a=>some a
 |.su h a=>bif Bb3 g (some h) then some a else none
 |_=>none
def rdA (g:Option (aI×Bool))(t:TypeId)(x:Operand):RdM aI:=do
 lU (rV g (<- rdL E g t x))
def Hac (g:Option (aI×Bool))(h:aI×Bool)(t:TypeId)(x:Operand):RdM aI:=do
 let l <- rdL E g t x
 match rV g l with
 |some a=>.ret a
 |none=>lU (rV (some h) l)
def mkS (g:Option (aI×Bool))(x:aI):SV:=match g with
 |none=>.one (.sc x)
 |some z=>.one (.su z x)
def tF:List (Nat×Nat)->RdM (List (Nat×Nat))
 |[]=>.ret []
 | (r, k) :: rest => do
  match <- rdK (kR r) with
  | some (.root _ _ aE st) =>
   let ds <- tF rest
   match st with
   |.frozen=>bif Nat.beq aE k then .ret ds else .no
   |.live=>bif Nat.beq aE k then .ret ((r,k)::ds) else .no
   |_=>.no
  |_=>.no
structure SlR where
 x:aI
 deps:List (Nat×Nat)
 own:Option (Nat×Nat×Nat×Pth)
 nie:Bool
def vJ:aM->RdM SlR
 | .ex r => do
  match <- rdK (kR r) with
  |some (.root x m aE .live)=>.ret ⟨x,[(r,aE)],some (r,aE,m,.path []),false⟩
  |some (.root x m aE .frozen)=>.ret ⟨x,[],none,false⟩
  |_=>.no
 | .sn deps p nie x => do
  let ds <- tF deps
  match p,deps,ds with
  |.no,_,_=>.ret ⟨x,ds,none,nie⟩
  | p, [(r, k)], [_] => do
   match <- rdK (kR r) with
   |some (.root _ m _ .live)=>.ret ⟨x,[(r,k)],some (r,k,m,p),nie⟩
   |_=>.no
  |_,_,_=>.ret ⟨x,ds,none,nie⟩
 |_=>.no
def iT (s:SlR)(i:aI)(sz off:Nat):CK->aI->aM
 |.sc _,y=>.sc y
 | .sl _, y =>
  match s.own with
  |some (r,k,m,.path p)=>bif Nat.ble (p.length+2) m then .sn [(r,k)] (.path (p++[(i,sz,off)])) false y else .sn [] .no false y
  |_=>.sn s.deps .no false y
 |_,_=>.dead
def dV (s:SlR)(i:aI)(sz:Nat):Nat->List CK->Nat->List aM
 |_,[],_=>[]
 |off,c::cs,y=>iT s i sz off c (.v y)::dV s i sz (off+1) cs (y+1)
def jB (agg:Bool):SV->Option (List aM)
 |.one l=>bif agg then none else some [l]
 |.agg ls=>bif agg then some ls else none
 |_=>none
def Paj (agg:Bool)(ls:List aM):Option SV :=
 bif agg then some (.agg ls) else match ls with
  |[l]=>some (.one l)
  |_=>none
def Cah:CK->Nat
 |.sc (.int _ _)=>0
 |.sc (.bool _)=>1
 |.sc (.str _)=>2
 |_=>3
def Bbt:CK->Bool
 |.sc _=>true
 |_=>false
def Ja8:List CK->Bool
 |[]=>true
 |.sc _::r=>Ja8 r
 |_=>false
structure Put where
 xs:List aI
 moves:List (Nat×Nat×Nat)
 holes:List (Nat×Nat×List (aI×Nat×Nat))
 frz:List Nat
 depth:Nat
def big:Nat:=99
def Oaa (mv cN:Bool)(off:Nat):aM->RdM Put
 |.sc x=>.ret ⟨[x],[],[],[],big⟩
 | .ex r => do
  match <- rdK (kR r) with
  |some (.root x m aE .live)=>bif mv then .ret ⟨[x],[(off,r,m)],[],[],m⟩ else .ret ⟨[x],[],[],[r],0⟩
  |some (.root x m aE .frozen)=>.ret ⟨[x],[],[],[],0⟩
  |_=>.no
 | .sn deps p nie x => do
  match deps,nie,x with
  |[],true,.c (.rows _ [])=>.ret ⟨[x],[],[],[],big⟩
  | _, _, _ =>
   let s <- vJ (.sn deps p nie x)
   match s.own with
   |some (r,k,m,.path q)=>bif cN&&Nat.ble (q.length+1) m then .ret ⟨[x],[],[(off,r,q)],[],m-q.length⟩ else .ret ⟨[x],[],[],[r],0⟩
   |_=>.ret ⟨[x],[],[],s.deps.map (·.1),0⟩
 |_=>.no
def oQ (mv cN:Bool):Nat->List aM->RdM Put
 |_,[]=>.ret ⟨[],[],[],[],big⟩
 | off, l :: ls => do
  let a <- Oaa mv cN off l
  let b <- oQ mv cN (off+1) ls
  .ret ⟨a.xs++b.xs,a.moves++b.moves,a.holes++b.holes,a.frz++b.frz,min a.depth b.depth⟩
def has (l:List Nat)(n:Nat):Bool:=l.any (Nat.beq n)
def meets (a b:List Nat):Bool:=a.any fun x=>has b x
def dD:List Nat->RdM (List (Nat×aN))
 |[]=>.ret []
 | r :: rs => do
  match <- rdK (kR r) with
  | some (.root x m aE .live) => do
   let l <- dD rs
   .ret ((kR r,.root x m aE .frozen)::l)
  |some (.root _ _ _ .frozen)=>dD rs
  |_=>.no
def distinct:List Nat->Bool
 |[]=>true
 |x::r=>!(has r x)&&distinct r
def Ia3:Nat->aI->List (aI×Nat×Nat)->aI->List Step×aI
 |_,_,[],y=>([],y)
 | nv, X, (i, sz, off) :: p, y =>
  match p with
  |[]=>([.prim (.set sz off 1) [X,i,y] 1],.v nv)
  | _ =>
   let (l,z):=Ia3 (nv+1) (.v nv) p y
   let n:=bD l
   ([.prim (.row sz off [false]) [X,i] 1]++l++[.prim (.set sz off 1) [X,i,z] 1],.v (nv+1+n))
def qH (o:Oper)(g:Option (aI×Bool))(lets:List Step)(v:SV)(upd:List (Nat×aN)):RdM bI :=
 .ret ⟨lets,(match o.dst with|some d=>[(kT d,.slot g v)]|none=>[])++upd⟩
def qG (o:Oper)(g:Option (aI×Bool))(nv:Nat)(p:aY)(xs:List aI):RdM bI :=
 .ret ⟨[.prim p xs 1],match o.dst with|some d=>[(kT d,.slot none (mkS g (.v nv)))]|none=>[]⟩
def Uaa (o:Oper)(g:Option (aI×Bool))(nv:Nat)(v:SV):RdM bI :=
 match g,v with
 | some _, .one l => match rV g l with
  |some x=>qG o g nv .id [x]
  |none=>qH o g [] v []
 |_,_=>qH o g [] v []
def atoms:List aM->Option (List aI)
 |[]=>some []
 |.sc x::r=>(atoms r).map (x::·)
 |_=>none
def rW:List SV->Option (List aM)
 |[]=>some []
 |.one l::r=>(rW r).map (l::·)
 |_=>none
def Fa2 (g:Option (aI×Bool)):List aM->Option (List aI)
 |[]=>some []
 |l::r=>(rV g l).bind fun x=>(Fa2 g r).map (x::·)
def tiR (t:TypeId):RdM TI:=lU (E.ti t)
def setRange {α:Type}(ls:List α)(off:Nat)(vs:List α):List α:=ls.take off++vs++ls.drop (off+vs.length)
def Kap:aM->Bool
 |.su _ _=>false
 |_=>true
def Aaz (nv:Nat)(mv cN:Bool)(o:Oper)(g:Option (aI×Bool))(ti:TI)(p:aM)(ls:List aM):RdM bI:=do
 bG (Nat.beq ls.length ti.size&&o.dst.isNone)
 match p with
 | .px b off => do
  match <- rdK (kB b) with
  | some (.box false bs) => do
   bG (Nat.ble (off+ls.length) bs.length&&noG g&&ls.all Kap)
   .ret ⟨[],[(kB b,.box false (setRange bs off ls))]⟩
  |_=>.no
 | .pe l sz i off => do
  bG (noG g)
  let s <- vJ l
  match s.own with
  | some (r, k, m, .path q) => do
   bG (Nat.ble (q.length+1) m)
   match <- rdK (kR r) with
   | some (.root X m aE .live) => do
    let pu <- oQ mv cN off ls
    let fr <- dD pu.frz
    bG (!(has pu.frz r)&&!(pu.moves.any fun z=>Nat.beq z.2.1 r)&&pu.holes.isEmpty&&distinct (pu.moves.map (·.2.1))&&!(pu.moves.any fun z=>has pu.frz z.2.1))
    let m':=min m (q.length+1+pu.depth)
    let st1:Step:=.prim (.set sz off ti.size) ([s.x,i]++pu.xs) 1
    let (l2,X'):=Ia3 (nv+1) X q (.v nv)
    .ret ⟨st1::l2,(kR r,.root X' m' (aE+1) .live)::(pu.moves.map fun z=>(kR z.2.1,.root (.c .hole) 0 0 .gone))++fr⟩
   |_=>.no
  |_=>.no
 |_=>.no
def Pad (nv:Nat)(o:Oper)(g:Option (aI×Bool))(ti:TI)(p:aM):RdM bI:=do
 match p with
 | .px b off => do
  match <- rdK (kB b) with
  | some (.box _ bs) =>
   bG (Nat.ble (off+ti.size) bs.length)
   match Paj ti.agg ((bs.drop off).take ti.size) with
   |some v=>Uaa o g nv v
   |none=>.no
  |_=>.no
 | .pe l sz i off => do
  let s <- vJ l
  match Paj ti.agg (dV s i sz off ti.cells nv) with
  |some (.one (.sc x))=>qG o g nv (.row sz off [true]) [s.x,i]
  |some v=>qH o g [.prim (.row sz off (ti.cells.map Bbt)) [s.x,i] ti.size] v []
  |none=>.no
 |_=>.no
def Nao (o:Oper)(g:Option (aI×Bool))(fo:Nat):aM->RdM bI
 |.px b off=>qH o g [] (.one (.px b (off+fo))) []
 |.pe l sz i off=>qH o g [] (.one (.pe l sz i (off+fo))) []
 |_=>.no
def pE (flds:List (Nat×Nat))(ti:Nat->Option TI):List aM->List (Nat×SV)->Option (List aM)
 |ls,[]=>some ls
 | ls, (i, v) :: r =>
  match flds[i]? with
  | some (off, t) => match ti t with
   | some f => match jB f.agg v with
    |some vs=>bif Nat.beq vs.length f.size&&Nat.ble (off+f.size) ls.length then pE flds ti (setRange ls off vs) r else none
    |none=>none
   |none=>none
  |none=>none
def Aa5 (g:Option (aI×Bool))(ty:Nat->TypeId):List (Nat×Operand)->RdM (List (Nat×SV))
 |[]=>.ret []
 | (i, x) :: r => do
  let v <- Lac E g (ty i) x
  let l <- Aa5 g ty r
  .ret ((i,v)::l)
def Aad (ti:TI)(len:Nat):List aM->List (Nat×SV)->Option (List aM)
 |ls,[]=>some ls
 | ls, (i, v) :: r =>
  match jB ti.agg v with
  |some vs=>bif Nat.beq vs.length ti.size&&Qbg i len then Aad ti len (setRange ls (i*ti.size) vs) r else none
  |none=>none
def Yah {α:Type}(l:List α):Nat->List α
 |0=>[]
 |n+1=>l++Yah l n
def Pae (oh:Bool)(y:SlR):RdM (Nat×List (Nat×aN)×List Nat) :=
 bif oh then .ret (big,[],y.deps.map (·.1)) else
 match y.own with
 | some (r, k, m, .path []) =>
  bif Nat.ble 2 m then .ret (m,[(kR r,.root (.c .hole) 0 0 .gone)],[r]) else .ret (1,[],[r])
 | some (r, k, m, _) => do
  let fr <- dD [r]
  .ret (1,fr,[r])
 | none => match y.x with
  |.c (.rows _ [])=>.ret (big,[],[])
  | _ => do
   let fr <- dD (y.deps.map (·.1))
   .ret (1,fr,y.deps.map (·.1))
def vE (nv nr:Nat)(o:Oper)(ti:TI)(y:SlR)(dy:Nat)(fR:List (Nat×aN))(sx:aI)(m:Nat)(pre:List Step)(upd:List (Nat×aN)):RdM bI :=
 qH o none (pre++[.prim (.app ti.size ti.bytes (Ja8 ti.cells)) [sx,y.x] 1]) (.one (.ex nr))
  ((kR nr,.root (.v (nv+bD pre)) (bif Ja8 ti.cells then big else min m dy) 0 .live)::upd++fR)
def Iaf (nv nr:Nat)(mv cN:Bool)(o:Oper)(ti:TI)(sl yl:aM):RdM bI:=do
 let y <- vJ yl
 let oh:=Ja8 ti.cells
 let (dy,fR,ry) <- Pae oh y
 match sl with
 |.sn [] _ true (.c (.rows z []))=>vE nv nr o ti y dy fR (.c (.rows z [])) big [] []
 | _ => do
  let s <- vJ sl
  match s.own with
  | some (r, k, m, q) =>
   bG ((!(has ry r)||oh)&&Nat.ble 1 m)
   match q with
   |.path []=>vE nv nr o ti y dy fR s.x m [] [(kR r,.root (.c .hole) 0 0 .gone)]
   |.view=>bif oh||Nat.beq m 1 then vE nv nr o ti y dy fR s.x m [] [(kR r,.root (.c .hole) 0 0 .gone)] else .no
   | .path q => do
    bG (Nat.ble (q.length+1) m&&!(has ry r))
    match <- rdK (kR r) with
    | some (.root X m aE .live) =>
     let (l,X'):=Ia3 nv X q (.c .hole)
     vE nv nr o ti y dy fR s.x (m-q.length) l [(kR r,.root X' m (aE+1) .live)]
    |_=>.no
   |.no=>.no
   |.suf _ _=>.no
  |none=>.no
def iU:List LS->List aM->List (Nat×Nat×Nat)->Option (List (Nat×Nat×Nat))
 |[],[],acc=>some acc
 |.px b::ss,.px c off::ls,acc=>iU ss ls ((b,c,off)::acc)
 |_,_,_=>none
def Ka1:List LS->List aM->Bool
  |[],[]=>true
  | s :: ss, l :: ls =>
    (match s,l with
     |.sc,.sc _=>true
     |.sc,.su _ _=>true
     |.fz _,.ex _=>true
     |.fz _,.sn ..=>true
     |.mu _,.ex _=>true
     |.mu _,.sn ..=>true
     |.ow _,.ex _=>true
     |.ow _,.sn ..=>true
     |.px _,.px _ _=>true
     |.clo f cs,.clo f' jn=>Nat.beq f f'&&Nat.beq cs.length jn.length
     |.rp _,.rp _ _ _=>true
     |_,_=>false)&&Ka1 ss ls
  |_,_=>false
def pU:SV->List aM
 |.one l=>[l]
 |.agg ls=>ls
 |_=>[]
def Ib7:SV->Bool
 |.agg _=>true
 |_=>false
def Oa3:List (Bool×List LS)->List SV->Bool
 |[],[]=>true
 |(a,ss)::ps,v::vs=>(a==Ib7 v)&&Ka1 ss (pU v)&&Oa3 ps vs
 |_,_=>false
def Fag (f:Nat)(vs:List SV):List (Nat×Sig)->Option (Nat×Sig)
 |[]=>none
 |(k,s)::r=>bif Nat.beq s.fn f&&Oa3 s.params vs then some (k,s) else Fag f vs r
inductive RT where
 |nil
 |own (r d:Nat)
 |mu (r d:Nat) (q:List (aI×Nat×Nat)) (X:aI)
 deriving Inhabited
structure Take where
 xs:List aI
 ptrs:List (Nat×Nat×Nat)
 deps:List (Nat×Nat)
 lets:List Step
 rts:List RT
def Take.empty:Take:=⟨[],[],[],[],[]⟩
def Kad (g:Option (aI×Bool))(T:Take)(l:aM):RdM Take:=do
 let x <- lU (rV g l)
 .ret { T with xs:=T.xs++[x] }
def oK (T:Take)(nie:Bool)(l:aM):RdM Take:=do
 let s <- vJ l
 .ret { T with xs:=T.xs++[s.x],deps:=T.deps++s.deps,lets:=T.lets++(bif nie&&!s.nie then [.prim .ne [s.x] 0] else []) }
def rR (T:Take)(d:Nat):aM->RdM Take
 | .ex r => do
  match <- rdK (kR r) with
  | some (.root x m aE .live) => do
   bG (Nat.ble d m)
   .ret { T with xs:=T.xs++[x],rts:=T.rts++[.own r d] }
  |_=>.no
 |.sn [] _ true (.c (.rows z []))=>.ret { T with xs:=T.xs++[.c (.rows z [])],rts:=T.rts++[.nil] }
 |_=>.no
def Gaw (T:Take)(d:Nat)(l:aM):RdM Take:=do
 let s <- vJ l
 match s.own with
 | some (r, k, m, .path q) => do
  bG (Nat.ble (q.length+d) m)
  match <- rdK (kR r) with
  |some (.root X _ _ .live)=>.ret { T with xs:=T.xs++[s.x],rts:=T.rts++[.mu r d q X] }
  |_=>.no
 |_=>.no
def Da1 (T:Take)(z:Nat):aM->RdM Take
 | .rp deps ob x => do
  let ds <- tF deps
  .ret { T with xs:=T.xs++[x],deps:=T.deps++ds }
 |.pn=>.ret { T with xs:=T.xs++[.c (.rows z [])] }
 |_=>.no
def pO (g:Option (aI×Bool))(T:Take):LS->aM->RdM Take
 |.sc,l=>Kad g T l
 |.fz nie,l=>oK T nie l
 |.mu d,l=>Gaw T d l
 |.ow d,l=>rR T d l
 |.px b,.px c off=>.ret { T with ptrs:=T.ptrs++[(b,c,off)] }
 | .clo f cs, .clo f' ls =>
  match iU cs ls [] with
  |some l=>bif Nat.beq f f' then .ret { T with ptrs:=T.ptrs++l } else .no
  |none=>.no
 |.rp z,l=>Da1 T z l
 |_,_=>.no
def bY (g:Option (aI×Bool)):Take->List LS->List aM->RdM Take
 |T,[],[]=>.ret T
 | T, s :: ss, l :: ls => do
  let T <- pO g T s l
  bY g T ss ls
 |_,_,_=>.no
def dZ (g:Option (aI×Bool)):Take->List (Bool×List LS)->List SV->RdM Take
 |T,[],[]=>.ret T
 | T, (a, ss) :: ps, v :: vs => do
  let ls <- lU (jB a v)
  let T <- bY g T ss ls
  dZ g T ps vs
 |_,_,_=>.no
def yE (T:Take):BS->aM->RdM Take
 |.sc,.sc x=>.ret { T with xs:=T.xs++[x] }
 |.fz nie,l=>oK T nie l
 |.ow d,l=>rR T d l
 |.ot,l=>bif Kap l then .ret T else .no
 |_,_=>.no
def dM:Take->List (BS×BO)->List aM->RdM Take
 |T,[],_=>.ret T
 | T, (s, _) :: ss, l :: ls => do
  let T <- yE T s l
  dM T ss ls
 |_,_::_,[]=>.no
def Mbo:List (BS×BO)->Bool
 |[]=>true
 |(.ow _,_)::_=>false
 |_::r=>Mbo r
def mP (b:Nat):List (Nat×Nat×Nat)->Option (Nat×Nat)
 |[]=>none
 |(b',c,off)::r=>bif Nat.beq b' b then some (c,off) else mP b r
def dX (ptrs:List (Nat×Nat×Nat)):Take->Nat->List (Bool×List (BS×BO))->RdM Take
 |T,_,[]=>.ret T
 | T, b, (ro, cs) :: r => do
  match mP b ptrs with
  | some (c, off) => do
   match <- rdK (kB c) with
   | some (.box kk ls) => do
    bG (((ro&&Mbo cs)||(!ro&&!kk&&!cs.isEmpty))&&Nat.ble (off+cs.length) ls.length)
    let T <- dM T cs (ls.drop off)
    dX ptrs T (b+1) r
   |_=>.no
  |none=>.no
def iC (w:Bool)(ptrs:List (Nat×Nat×Nat)):Nat->List (Bool×List (BS×BO))->List Nat
 |_,[]=>[]
 |b,(ro,_)::r=>bif ro==w then (match mP b ptrs with | some (c,_)=>c::iC w ptrs (b+1) r | none=>iC w ptrs (b+1) r) else iC w ptrs (b+1) r
def Pax (nbx:Nat)(ptrs:List (Nat×Nat×Nat)):List (Nat×Nat×Nat)->Bool
 |[]=>true
 |(b,c,off)::r=>Qbg b nbx&&(match mP b ptrs with | some (c',ka)=>Nat.beq c c'&&Nat.beq off ka | none=>false)&&Pax nbx ptrs r
def bT:List RT->List Nat
 |[]=>[]
 |.nil::r=>bT r
 |.own s _::r=>s::bT r
 |.mu s _ _ _::r=>s::bT r
def Tah (s:Sig)(T:Take):Bool :=
 let wr:=iC false T.ptrs 0 s.boxes
 Pax s.boxes.length T.ptrs T.ptrs&&distinct (bT T.rts)&&!(T.deps.any fun d=>has (bT T.rts) d.1)&&distinct wr&&!(meets wr (iC true T.ptrs 0 s.boxes))
def LR.n:LR->Nat
 |.bx cs=>cs.length
 |_=>1
def lF:List LR->Nat
 |[]=>0
 |s::ss=>s.n+lF ss
def bxL:List LR->Nat
 |[]=>0
 |.bx _::ss=>1+bxL ss
 |_::ss=>bxL ss
def jM:List (Bool×List LR)->Nat
 |[]=>0
 |(_,ss)::rs=>bxL ss+jM rs
def bF:List (Bool×List LR)->Nat
 |[]=>0
 |(_,ss)::rs=>lF ss+bF rs
def iV (deps:List (Nat×Nat))(y nr:Nat):BO->aM×List (Nat×aN)×Nat
 |.sc=>(.sc (.v y),[],nr)
 |.fz=>(.sn deps .no false (.v y),[],nr)
 |.ow m=>(.ex nr,[(kR nr,.root (.v y) m 0 .live)],nr+1)
 |.dead=>(.dead,[],nr)
def dC (deps:List (Nat×Nat)):Nat->Nat->List BO->List aM×List (Nat×aN)×Nat
 |_,nr,[]=>([],[],nr)
 | y, nr, s :: ss =>
  let (l,u,nr):=iV deps y nr s
  let (ls,us,nr):=dC deps (y+1) nr ss
  (l::ls,u++us,nr)
def bU (gd:Bool)(deps:List (Nat×Nat))(nb y nr:Nat):LR->aM×List (Nat×aN)×Nat
 |.sc=>(.sc (.v y),[],nr)
 |.fz=>(.sn deps .no false (.v y),[],nr)
 |.ow m=>bif gd then (.sn deps .no false (.v y),[],nr+1) else (.ex nr,[(kR nr,.root (.v y) m 0 .live)],nr+1)
 |.rp sz=>(.rp deps sz (.v y),[],nr)
 | .bx cs =>
  let (ls,us,nr):=dC deps y nr cs
  (.px nb 0,(kB nb,.box false ls)::us,nr)
def cZ (gd:Bool)(deps:List (Nat×Nat))(nb:Nat):Nat->Nat->List LR->List aM×List (Nat×aN)×Nat
 |_,nr,[]=>([],[],nr)
 | y, nr, s :: ss =>
  let (l,u,nr):=bU gd deps nb y nr s
  let (ls,us,nr):=cZ gd deps nb (y+s.n) nr ss
  (l::ls,u++us,nr)
def iJ (gd:Bool)(deps:List (Nat×Nat))(nb:Nat):Nat->Nat->List (Bool×List LR)->List (Bool×List aM)×List (Nat×aN)×Nat
 |_,nr,[]=>([],[],nr)
 | y, nr, (a, s) :: ss =>
  let (l,u,nr):=cZ gd deps nb y nr s
  let (ls,us,nr):=iJ gd deps nb (y+lF s) nr ss
  ((a,l)::ls,u++us,nr)
def kH (ptrs:List (Nat×Nat×Nat))(deps:List (Nat×Nat)):Nat->Nat->Nat->List (Bool×List (BS×BO))->RdM (List (Nat×aN))
 |_,y,nr,[]=>.ret []
 | b, y, nr, (ro, cs) :: r =>
  bif ro then kH ptrs deps (b+1) y nr r else
  match mP b ptrs with
  | some (c, off) => do
   match <- rdK (kB c) with
   | some (.box false ls) => do
    let (ns,us,nr):=dC deps y nr (cs.map (·.2))
    let rest <- kH ptrs deps (b+1) (y+cs.length) nr r
    .ret ((kB c,.box false (setRange ls off ns))::us++rest)
   |_=>.no
  |none=>.no
def wQ:Nat->Nat->List RT->RdM (List Step×List (Nat×aN))
 |_,_,[]=>.ret ([],[])
 | y, nv, .mu r d q X :: rest => do
  match <- rdK (kR r) with
  | some (.root _ m v .live) => do
   let (l,X'):=Ia3 nv X q (.v y)
   let (ls,us) <- wQ (y+1) (nv+bD l) rest
   .ret ((bif Nat.beq (q.length+d) m then [] else [.prim (.dep d) [.v y] 0])++(l++ls),(kR r,.root X' m (v+1) .live)::us)
  |_=>.no
 |y,nv,_::rest=>wQ y nv rest
def fP:List RT->List (Nat×aN)
 |[]=>[]
 |.own r _::rest=>(kR r,.root (.c .hole) 0 0 .gone)::fP rest
 |_::rest=>fP rest
def dP:List (Bool×List (BS×BO))->Nat
 |[]=>0
 |(ro,cs)::r=>(bif ro then 0 else cs.length)+dP r
def lZ:Nat->List BO->List Step
 |_,[]=>[]
 |y,.ow m::r=>.prim (.dep m) [.v y] 0::lZ (y+1) r
 |y,_::r=>lZ (y+1) r
def Oa0:Nat->List LR->List Step
 |_,[]=>[]
 |y,.ow m::r=>.prim (.dep m) [.v y] 0::Oa0 (y+1) r
 |y,.bx cs::r=>lZ y cs++Oa0 (y+cs.length) r
 |y,_::r=>Oa0 (y+1) r
def Va6:Nat->List (Bool×List LR)->List Step
 |_,[]=>[]
 |y,(_,ss)::r=>Oa0 y ss++Va6 (y+lF ss) r
def Va7:Nat->List RT->List Step
 |_,[]=>[]
 |y,.mu _ d _ _::r=>.prim (.dep d) [.v y] 0::Va7 (y+1) r
 |y,_::r=>Va7 y r
def Saw:Nat->List (Bool×List (BS×BO))->List Step
 |_,[]=>[]
 |y,(ro,cs)::r=>bif ro then Saw y r else lZ y (cs.map (·.2))++Saw (y+cs.length) r
def uB:RT->Bool
 |.mu _ _ _ _=>true
 |_=>false
def jJ:List (BS×BO)->List aM->RdM (List aI)
 |[],_=>.ret []
 | (s, o) :: ss, l :: ls => do
  let x <- (match s,o,l with
   |.sc,.sc,.sc x=>RdM.ret x
   | .fz _, .fz, l => do
    let r <- vJ l
    RdM.ret r.x
   |_,.dead,l=>bif Kap l then .ret (.c .hole) else .no
   |_,_,_=>.no)
  let r <- jJ ss ls
  .ret (x::r)
 |_::_,[]=>.no
def iD (ptrs:List (Nat×Nat×Nat)):Nat->List (Bool×List (BS×BO))->RdM (List aI)
 |_,[]=>.ret []
 | b, (ro, cs) :: r =>
  bif ro then iD ptrs (b+1) r else
  match mP b ptrs with
  | some (c, off) => do
   match <- rdK (kB c) with
   | some (.box false ls) => do
    let l <- jJ cs (ls.drop off)
    let m <- iD ptrs (b+1) r
    .ret (l++m)
   |_=>.no
  |none=>.no
def yV (g:Option (aI×Bool)):List (Bool×List aM)->SV
 |[(false,[.sc x])]=>mkS g x
 |[(false,[l])]=>.one l
 |[(true,ls)]=>.agg ls
 |rs=>.tup rs
def Yag (g:Option (aI×Bool)):SV->Option (aI×Bool)
 |.one (.su _ _)=>none
 |_=>g
def Za5 (nv nb nr:Nat)(o:Oper)(g:Option (aI×Bool))(f:Nat)(vs:List SV):RdM bI:=do
 match Fag f vs E.sigs with
 |none=>.no
 | some (key, s) => do
  let T <- dZ g Take.empty s.params vs
  let T <- dX T.ptrs T 0 s.boxes
  bG (Tah s T&&Nat.ble (jM s.results) 1&&(noG g||(T.rts.isEmpty&&Nat.beq (jM s.results) 0)))
  let nres:=bF s.results
  let nmu:=(T.rts.filter uB).length
  let total:=nres+nmu+dP s.boxes
  let y0:=nv+bD T.lets
  let (rs,us,uw):=iJ (!noG g) T.deps nb y0 nr s.results
  let bu <- kH T.ptrs T.deps 0 (y0+nres+nmu) uw s.boxes
  let chk:=bif T.deps.isEmpty then [] else Va6 y0 s.results++Va7 (y0+nres) T.rts++Saw (y0+nres+nmu) s.boxes
  let (ml,mu) <- wQ (y0+nres) (y0+total) T.rts
  let olds <- (match g with
   |none=>RdM.ret []
   |some _=>iD T.ptrs 0 s.boxes)
  let v:=yV g rs
  .ret ⟨T.lets++[.call key (T.xs) total olds]++chk++ml,(match o.dst with|some d=>[(kT d,.slot (Yag g v) v)]|none=>[])++(us++bu++mu++fP T.rts)⟩
def wN (g:Option (aI×Bool)):List Operand->List TypeId->RdM (List SV)
 |[],_=>.ret []
 | x :: xs, ts => do
  let v <- Lac E g (ts.headD 0) x
  let l <- wN g xs ts.tail
  .ret (v::l)
def Jbi:Option IntKind->Bool
 |some k=>Ibs k .u8
 |none=>false
def Hau:Operand->Bool
 |.const (.slice none _ _)=>true
 |_=>false
def Qad:Operand->Bool
 |.const (.pointer none)=>true
 |_=>false
def Ibl (nv:Nat)(o:Oper)(g:Option (aI×Bool))(neg:Bool)(t:TypeId)(x y:Operand):RdM bI:=do
 let a <- Lac E g t x
 let b <- Lac E g t y
 match a,b with
 | .agg ls, .agg ms => do
  let ti <- tiR E t
  match atoms ls,atoms ms with
  | some xs, some ys => do
   bG (ti.cmp&&Nat.beq xs.length ti.size&&Nat.beq ys.length ti.size)
   let d:=match o.dst with|some d=>[(kT d,aN.slot none (mkS g (.v (bif neg then nv+1 else nv))))]|none=>[]
   .ret ⟨[.prim (.eqs (ti.cells.map Cah)) (xs++ys) 1]++(bif neg then [.prim .not [.v nv] 1] else []),d⟩
  |_,_=>.no
 | .one l, .one m => do
  let ti <- tiR E t
  match rV g l,rV g m with
  | some p, some q => do
   bif ti.isBool then qG o g nv (.eqb neg) [p,q] else qG o g nv (.bin (bif neg then .neq else .eql)) [p,q]
  |_,_ =>
  let res (p:aY) (x:aI):RdM bI :=
   .ret ⟨[.prim p [x] 1]++(bif neg then [.prim .not [.v nv] 1] else []),match o.dst with|some d=>[(kT d,aN.slot none (mkS g (.v (bif neg then nv+1 else nv))))]|none=>[]⟩
  bif Hau y then do
   bG ti.elem.isSome
   let s <- vJ l
   let r <- res .emp s.x
   .ret (bif s.nie then r else ⟨.prim .ne [s.x] 0::r.lets,r.upd⟩)
  else bif Qad y then do
   bG ti.isPtr
   match l with
   | .rp deps sz x => do
    let _ <- tF deps
    res .emp x
   |.pn=>qG o g nv .id [.c (.bool (!neg))]
   |.px _ _=>qG o g nv .id [.c (.bool neg)]
   |.pe _ _ _ _=>qG o g nv .id [.c (.bool neg)]
   |_=>.no
  else .no
 |_,_=>.no
def Gar:List CK->Option (List D)
 |[]=>some []
 |.sc z::r=>(Gar r).map (z::·)
 |.sl sz::r=>(Gar r).map (.rows sz []::·)
 |_::_=>none
def Gas (ei:TI)(lo:Bool)(s:SlR):Pth×Bool :=
 let one (m:Nat):Pth×Bool:=bif Nat.beq m 1||!lo then (.view,false) else bif Ja8 ei.cells then (.view,true) else (.no,false)
 match s.own with
 |some (_,_,m,.path [])=>one m
 |some (_,_,m,.view)=>one m
 |_=>(.no,false)
def Abz (p:Pth)(sz:Nat)(lo:aI)(s:SlR):Pth :=
 match p,s.own with
 |.no,some (_,_,_,.path [])=>.suf sz lo
 |p,_=>p
def Nap (nv:Nat)(o:Oper)(ei:TI)(l:aM):RdM bI:=do
 let s <- vJ l
 match s.own with
 | some (r, k, m, .suf sz lo) => do
  bG (Nat.beq sz 1&&Nat.beq ei.size 1&&Nat.ble 1 m)
  match <- rdK (kR r) with
  |some (.root X m' aE .live)=>.ret ⟨[.prim (.clr 1) [X,lo] 1],(match o.dst with | some d=>[(kT d,.slot none .dead)] | none=>[])++[(kR r,.root (.v nv) m' (aE+1) .live)]⟩
  |_=>.no
 |_=>.no
def nL (mv cN:Bool)(nv nb nr:Nat)(g:Option (aI×Bool))(o:Oper):RdM bI :=
 match o.op with
 |.move x | .assign x=>do Uaa o g nv (<- Lac E g o.type x)
 | .pick c a b => do
  let c <- rdA E g 0 c
  let a <- Hac E g (c,true) o.type a
  let b <- Hac E g (c,false) o.type b
  qG o g nv .pick [c,a,b]
 | .alloc e => do
  let ti <- tiR E e
  bG (noG g)
  qH o g [] (.one (.px nb 0)) [(kB nb,.box false (ti.cells.map fA))]
 | .box e x => do
  let ti <- tiR E e
  let v <- Lac E g e x
  match jB ti.agg v with
  | some ls => do
   bG (Nat.beq ls.length ti.size&&noG g&&ls.all Kap)
   qH o g [] (.one (.px nb 0)) [(kB nb,.box false ls)]
  |none=>.no
 | .build t parts => do
  let ti <- tiR E t
  bG ti.agg
  let ps <- Aa5 E g (fun i=>(ti.flds.getD i (0,0)).2) parts.toList
  match pE ti.flds E.ti (ti.cells.map fA) ps with
  |some ls=>qH o g [] (.agg ls) []
  |none=>.no
 | .buildSlice t len parts => do
  let st <- tiR E t
  let e <- lU st.elem
  let ti <- tiR E e
  let ps <- Aa5 E g (fun _=>e) parts.toList
  bG (Nat.ble (len*ti.size) 4096&&Qbg 0 ti.size&&Qbg (len*ti.bytes) 4096)
  match Aad ti len (Yah (ti.cells.map fA) len) ps with
  | some ls => do
   let pu <- oQ mv cN 0 ls
   bG (noG g||(pu.moves.isEmpty&&pu.holes.isEmpty&&pu.frz.isEmpty))
   let fr <- dD pu.frz
   bG (distinct (pu.moves.map (·.2.1))&&!(pu.moves.any fun z=>has pu.frz z.2.1)&&pu.holes.isEmpty)
   bif noG g then
    qH o g [.prim (.mk ti.size len) pu.xs 1] (.one (.ex nr))
     ((kR nr,.root (.v nv) (min big (pu.depth+1)) 0 .live)::(pu.moves.map fun z=>(kR z.2.1,.root (.c .hole) 0 0 .gone))++fr)
   else qH o g [.prim (.mk ti.size len) pu.xs 1] (.one (.sn [] .no false (.v nv))) []
  |none=>.no
 | .load t a => do
  let ti <- tiR E t
  Pad nv o g ti (<- rdL E g 0 a)
 | .store t a x => do
  let ti <- tiR E t
  let p <- rdL E g 0 a
  let v <- Lac E g t x
  match jB ti.agg v with
  |some ls=>Aaz nv mv cN o g ti p ls
  |none=>.no
 | .nilCheck x => do
  match <- rdL E g 0 x with
  | .rp deps sz y => do
   let ds <- tF deps
   qH o g [.prim .ne [y] 0] (.one (.pe (.sn ds .no false y) sz (.c (.int .i64 0)) 0)) []
  |.px b off=>qH o g [] (.one (.px b off)) []
  |.pe l sz i off=>qH o g [] (.one (.pe l sz i off)) []
  |.clo f cs=>qH o g [] (.one (.clo f cs)) []
  |.pn=>qH o g [.prim .ne [.c (.rows 0 [])] 0] (.one (.pe (.sn [] .no false (.c (.rows 0 []))) 0 (.c (.int .i64 0)) 0)) []
  |_=>.no
 |.binOp .eql t x y _=>Ibl E nv o g false t x y
 |.binOp .neq t x y _=>Ibl E nv o g true t x y
 | .binOp op t x y ty => do
  let a <- rdA E g t x
  let b <- rdA E g ty y
  qG o g nv (.bin op) [a,b]
 | .unOp op _ x => do
  let a <- rdA E g 0 x
  match op with
  |.not=>qG o g nv .not [a]
  |.neg=>qG o g nv .neg [a]
  |.xor=>qG o g nv .inv [a]
  |_=>.no
 | .convert src dst x => do
  let s <- tiR E src
  let d <- tiR E dst
  match d.ik with
  | some k => do
   bG s.ik.isSome
   let a <- rdA E g src x
   qG o g nv (.conv k) [a]
  | none =>
   bif d.isStr then
    bif s.isStr then do
     let a <- rdA E g src x
     qG o g nv .sid [a]
    else do
     let e <- lU s.elem
     let ei <- tiR E e
     bG (Jbi ei.ik)
     let r <- vJ (<- rdL E g src x)
     qG o g nv .bstr [r.x]
   else .no
 | .makeFunc (.func f) first eN => do
  bG first.isEmpty
  let vs <- wN E g eN.toList []
  let ls <- lU (rW vs)
  qH o g [] (.one (.clo f ls)) []
 | .makeSlice t l c => do
  let st <- tiR E t
  let e <- lU st.elem
  let ti <- tiR E e
  bG (noG g)
  let a <- rdA E g 0 l
  let b <- rdA E g 0 c
  bG (a.beq0 b&&Qbg 0 ti.size&&Qbg 0 ti.bytes)
  let zs <- lU (Gar ti.cells)
  qH o none [.prim (.make ti.bytes zs) [a] 1] (.one (.ex nr)) [(kR nr,.root (.v nv) big 0 .live)]
 | .slice t x lo hi mx => do
  let ti <- tiR E t
  match mx with
  |some _=>.no
  | none => do
   let l <- rdL E g t x
   let tz <- (match lo with|some a=>rdA E g 0 a|none=>RdM.ret (.c (.int .i64 0)))
   match l with
   | .sc s => do
    bG (ti.isStr&&(noG g||hi.isSome))
    match hi with
    | some h => do
     let h <- rdA E g 0 h
     qG o g nv .ssub [s,tz,h]
    | none =>
     .ret ⟨[.prim .slen [s] 1,.prim .ssub [s,tz,.v nv] 1],match o.dst with|some d=>[(kT d,.slot none (mkS g (.v (nv+1))))]|none=>[]⟩
   | l => do
    bG ti.elem.isSome
    let s <- vJ l
    let ei <- tiR E (ti.elem.getD 0)
    let (p,fl):=Gas ei lo.isSome s
    match hi with
    | some h => do
     let h <- rdA E g 0 h
     match l with
     |.sn _ _ true (.c (.rows z []))=>qH o g [.prim (.sub ei.size fl) [s.x,tz,h] 1] (.one l) []
     |_=>qH o g [.prim (.sub ei.size fl) [s.x,tz,h] 1] (.one (.sn s.deps p false (.v nv))) []
    | none =>
     qH o g [.prim .len [s.x] 1,.prim (.sub ei.size fl) [s.x,tz,.v nv] 1] (.one (.sn s.deps (Abz p ei.size tz s) false (.v (nv+1)))) []
 | .fieldAddr t x f => do
  let ti <- tiR E t
  match ti.flds[f]? with
  | some (off, ft) => do
   let fi <- tiR E ft
   bG (Qbg 0 fi.size)
   Nao o g off (<- rdL E g 0 x)
  |none=>.no
 | .field t x f => do
  let ti <- tiR E t
  match ti.flds[f]? with
  | some (off, ft) => do
   let fi <- tiR E ft
   match <- Lac E g t x with
   | .agg ls => do
    bG (Nat.ble (off+fi.size) ls.length&&Nat.beq ls.length ti.size)
    match Paj fi.agg ((ls.drop off).take fi.size) with
    |some v=>Uaa o g nv v
    |none=>.no
   |_=>.no
  |none=>.no
 | .indexAddr t x i => do
  let ti <- tiR E t
  let e <- lU ti.elem
  let ei <- tiR E e
  let l <- rdL E g t x
  let s <- vJ l
  let a <- rdA E g 0 i
  bG (Qbg 0 ei.size)
  qH o g [.prim .inb [s.x,a] 0] (.one (.pe l ei.size a 0)) []
 | .index t x i => do
  let ti <- tiR E t
  bG ti.isStr
  let s <- rdA E g t x
  let a <- rdA E g 0 i
  qG o g nv .sidx [s,a]
 | .extract x i => do
  match <- Lac E g 0 x with
  | .tup vs => match vs[i]? with
   | some (a, ls) => match Paj a ls with
    |some v=>Uaa o g nv v
    |none=>.no
   |none=>.no
  |_=>.no
 | .call { callee := .builtin b, args, argTypes } => do
  match b,args.toList with
  | .len, [x] => do
   let t <- lU argTypes[0]?
   let ti <- tiR E t
   let l <- rdL E g t x
   match rV g l with
   | some a => do
    bG ti.isStr
    qG o g nv .slen [a]
   | none => do
    bG ti.elem.isSome
    let s <- vJ l
    qG o g nv .len [s.x]
  | .append, [x, y] => do
   let t <- lU argTypes[0]?
   let ty <- lU argTypes[1]?
   let ti <- tiR E t
   let e <- lU ti.elem
   let ei <- tiR E e
   let yi <- tiR E ty
   bG (yi.elem.isSome&&Qbg 0 ei.size&&noG g&&Qbg 0 ei.bytes&&Nat.beq argTypes.size 2)
   Iaf nv nr mv cN o ei (<- rdL E g t x) (<- rdL E g ty y)
  | .clear, [x] => do
   let t <- lU argTypes[0]?
   let ti <- tiR E t
   let e <- lU ti.elem
   let ei <- tiR E e
   bG (noG g&&Nat.beq argTypes.size 1)
   Nap nv o ei (<- rdL E g t x)
  | .min, xs => do
   let vs <- wN E g xs argTypes.toList
   let as <- lU ((rW vs).bind (Fa2 g))
   qG o g nv .min as
  | .max, xs => do
   let vs <- wN E g xs argTypes.toList
   let as <- lU ((rW vs).bind (Fa2 g))
   qG o g nv .max as
  |_,_=>.no
 | .call { callee := .value f, args, argTypes } => do
  match <- rdL E g 0 f with
  | .clo fn eN => do
   let vs <- wN E g args.toList argTypes.toList
   Za5 E nv nb nr o g fn (vs++eN.map .one)
  |_=>.no
 |_=>.no
end
def jD {α:Type}(n:Nat):Option α:=none
structure St where
 tr:Tr aN
 nv:Nat
 nb:Nat
 nr:Nat
 nt:Nat
 deriving Inhabited
def sJ (nt nb nr k:Nat):Bool :=
 bif Nat.beq (k % 3) 0 then Qbg (k / 3) nt else bif Nat.beq (k % 3) 1 then Qbg (k / 3) nb else Qbg (k / 3) nr
def St.get (s:St)(k:Nat):Option aN:=bif sJ s.nt s.nb s.nr k then s.tr.get k else none
def aX (n:Nat):aI->Bool
 |.v i=>Qbg i n
 |.c _=>true
def Aa2 (n:Nat):Step->Bool
 |.prim _ xs _=>xs.all (aX n)
 |.call _ xs k olds=>xs.all (aX n)&&olds.all (aX n)&&Nat.ble olds.length k
def dR:Nat->List Step->Bool
 |_,[]=>true
 |n,s::r=>Aa2 n s&&dR (n+s.n) r
def mX (n:Nat):Option (aI×Bool)->Bool
 |none=>true
 |some (x,_)=>aX n x
def St.put (s:St)(k:Nat)(c:Option aN):St:={ s with tr:=s.tr.set 16 k c }
def St.puts (s:St):List (Nat×aN)->St
 |[]=>s
 |(k,c)::r=>(s.put k (some c)).puts r
def Iau (ops:List Oper)(o:Oper):RdM (Option (aI×Bool)) :=
 match o.guard with
 |none=>.ret none
 | some (j, want) =>
  match (ops[j]?).bind (·.dst) with
  | some d => .rd (kT d) fun
   |some (.slot none (.one (.sc x)))=>.ret (some (x,want))
   |some (.slot none (.one (.su _ x)))=>.ret (some (x,want))
   |_=>.no
  |none=>.no
def bO:Nat:=16
def wE (n nb nr k:Nat):Bool :=
 bif Nat.beq (k % 3) 0 then Qbg (k / 3) n else bif Nat.beq (k % 3) 1 then Nat.ble (k / 3) nb else Qbg (k / 3) (nr+bO)
def Ra5:List (Nat×aN)->Nat->Option aN
 |[],_=>none
 | (k', c) :: r, k => match Ra5 r k with
  |some d=>some d
  |none=>bif Nat.beq k' k then some c else none
def RdM.over {α:Type}(u:List (Nat×aN)):RdM α->RdM α
 |.ret a=>.ret a
 |.no=>.no
 | .rd k f => match Ra5 u k with
  |some c=>(f (some c)).over u
  |none=>.rd k fun c=>(f c).over u
def yI:Bool->Op->Option Nat
 |true,.store _ _ (.tmp t)=>some t
 | true, .buildSlice _ _ parts => match parts.toList with
  |[(_,.tmp t)]=>some t
  |_=>none
 |_,_=>none
def Ia9:Bool->Oper->Option Nat
 | true, o => match o.op with
  |.load _ _=>o.dst
  |_=>none
 |false,_=>none
def Ga1 (E:Env)(nv nr t:Nat):RdM (Option (List Step×List (Nat×aN))):=do
 match <- rdK (kT t) with
 | some (.slot none (.one (.sn deps (.path (p :: ps)) nie x))) => do
  let s <- vJ (.sn deps (.path (p::ps)) nie x)
  match s.own with
  | some (r, k, m, .path (q :: qs)) =>
   bif Nat.ble (qs.length+2) m&&Qbg t E.ntmps then do
    match <- rdK (kR r) with
    | some (.root X m' aE .live) =>
     let (l,X'):=Ia3 nv X (q::qs) (.c .hole)
     .ret (some (l,[(kT t,.slot none (.one (.ex nr))),(kR nr,.root s.x (m-(qs.length+1)) 0 .live),(kR r,.root X' m (aE+1) .live)]))
    |_=>.ret none
   else .ret none
  |_=>.ret none
 |_=>.ret none
def Rab (E:Env)(mv cN:Bool)(nv nb nr:Nat)(g:Option (aI×Bool))(o:Oper):RdM bI :=
 match yI (cN&&noG g) o.op with
 | none => match Ia9 (cN && noG g && !mv) o with
  |none=>nL E mv cN nv nb nr g o
  | some t => do
   let r <- nL E mv cN nv nb nr g o
   match <- (Ga1 E (nv+bD r.lets) nr t).over r.upd with
   |some (l,u)=>.ret ⟨r.lets++l,r.upd++u⟩
   |none=>.ret r
 | some t => do
  match <- Ga1 E nv nr t with
  | some (l, u) => do
   let r <- (nL E mv false (nv+bD l) nb (nr+1) g o).over u
   .ret ⟨l++r.lets,u++r.upd⟩
  |none=>nL E mv false nv nb nr g o
def jX (E:Env)(ops:List Oper)(mv cN:Bool)(nv nb nr:Nat)(o:Oper):RdM (Option (aI×Bool)×bI):=do
 let g <- Iau ops o
 bG (match o.dst with|some d=>Qbg d E.ntmps|none=>true)
 let r <- Rab E mv cN nv nb nr g o
 bG (r.upd.all fun x=>wE E.ntmps nb nr x.1)
 .ret (g,r)
structure OpI where
 g:Option (aI×Bool)
 res:bI
 log:List Nat
 nb:Nat
 nr:Nat
 deriving Inhabited
def lM (t:Tr aN)(r:Nat):Nat->Bool
 |0=>true
 |n+1=>(t.get (kR r)).isNone&&lM t (r+1) n
def zB (n:Nat):Pth->Bool
 |.path p=>p.all fun x=>aX n x.1
 |.suf _ x=>aX n x
 |_=>true
mutual
def aM.inScope (n:Nat):aM->Bool
 |.sc x=>aX n x
 |.su g x=>aX n x&&aX n g.1
 |.sn _ p _ x=>aX n x&&zB n p
 |.pe l _ i _=>l.inScope n&&aX n i
 |.rp _ _ x=>aX n x
 |.clo _ l=>bB n l
 |_=>true
def bB (n:Nat):List aM->Bool
 |[]=>true
 |a::r=>a.inScope n&&bB n r
end
def vF (n:Nat):SV->Bool
 |.dead=>true
 |.one l=>l.inScope n
 |.agg ls=>bB n ls
 |.tup vs=>vs.all fun v=>bB n v.2
def bQ (n:Nat):aN->Bool
 |.slot g v=>mX n g&&vF n v
 |.box _ ls=>bB n ls
 |.root x _ _ _=>aX n x
def Yam (s:St)(g:Option (aI×Bool))(r:bI):Bool :=
 (s.tr.get (kB s.nb)).isNone&&lM s.tr s.nr bO&&mX s.nv g&&dR s.nv r.lets&&r.upd.all fun x=>bQ (s.nv+bD r.lets) x.2
def Cb5:List (Nat×aN)->Nat->Nat
 |[],n=>n
 |x::r,n=>Cb5 r (bif Nat.beq (x.1 % 3) 2&&Nat.ble n (x.1 / 3) then x.1 / 3+1 else n)
def Oa1 (draw:Bool)(n:Nat)(u:List (Nat×aN)):Nat:=bif draw then n+bO else Cb5 u n
def Kac (t:Tr aN)(lo:Nat):Nat->Nat
 |0=>lo
 |n+1=>bif (t.get (kR (lo+n))).isNone then Kac t lo n else lo+n+1
def trimS (draw:Bool)(lo:Nat)(s:St):St:=bif draw&&Nat.ble lo s.nr then { s with nr:=Kac s.tr lo (s.nr-lo) } else s
def Jbj (l:List (Nat×Nat))(r i:Nat):Bool:=l.any fun p=>Nat.beq p.1 r&&Nat.beq p.2 i
def Taj (E:Env)(draw:Bool)(jv:Nat)(ops:List Oper):Nat->List Oper->St->List OpI->Sum (List OpI×St) (Nat×St×List OpI)
 |_,[],s,acc=>.inl (acc.reverse,s)
 | i, o :: os, s, acc =>
  let fl:=Jbj E.nomv jv i
  match (jX E ops (xor (!E.freezeEx) fl) (xor E.moveSn fl) s.nv s.nb s.nr o).run s.get with
  | some ((g, r), log) =>
   bif !(Yam s g r) then .inr (i,s,acc) else Taj E draw jv ops (i+1) os { (s.puts r.upd) with nv:=s.nv+bD r.lets,nb:=s.nb+1,nr:=Oa1 draw s.nr r.upd } ({ g,res:=r,log,nb:=s.nb,nr:=s.nr }::acc)
  |none=>.inr (i,s,acc)
def xA (acc:List Nat):List Edge->Nat->Nat
 |[],m=>m
 |e::es,m=>xA acc es (bif Region.binds .any e then (m ||| 2 ^ e.on) ||| acc.getD e.on 0 else m)
def waits:List Oper->List Nat->List Nat
 |[],acc=>acc
 |o::os,acc=>waits os (acc++[xA acc o.after.toList 0])
def Aah:List Oper->Nat->Bool
 |[],_=>true
 |o::os,i=>(o.after.toList.all fun e=>!(Region.binds .any e)||Qbg e.on i)&&Aah os (i+1)
def Jak (a:OpI)(k:Nat):Bool:=bif Nat.beq (k % 3) 1 then Nat.beq (k / 3) a.nb else bif Nat.beq (k % 3) 2 then Nat.ble a.nr (k / 3)&&Qbg (k / 3) (a.nr+bO) else false
def nW (a b:OpI):Bool :=
 let wa:=a.res.upd.map (·.1)
 let wb:=b.res.upd.map (·.1)
 !(meets wa b.log)&&!(meets wa wb)&&!(meets a.log wb)&&!(wb.any (Jak a))
def zV (a:OpI)(i:Nat):List OpI->List Nat->Bool
 |[],_=>true
 |b::bs,w::ws=>(Rbb w i||nW a b)&&zV a i bs ws
 |_::_,[]=>false
def tL:List OpI->List Nat->Nat->Bool
 |[],_,_=>true
 |a::as,ws,i=>zV a i as ws.tail&&tL as ws.tail (i+1)
def mJ (g:Option (aI×Bool))(k:Tm St):List Step->Tm St
 |[]=>k
 |.prim p xs n::r=>.lt g p xs n (mJ g k r)
 |.call f xs n olds::r=>.call g f xs n olds (mJ g k r)
def Da6 (k:Tm St):List OpI->Tm St
 |[]=>k
 |a::r=>mJ a.g (Da6 k r) a.res.lets
def Iae (E:Env)(om:Bool)(jv:Nat)(ops:List Oper)(draw:Bool)(s:St):Tm St :=
 match Taj E draw jv ops 0 ops s [] with
 | .inl (is, s') =>
  bif !draw||(Aah ops 0&&tL is (waits ops []) 0) then Da6 (.leaf .fall [] (trimS draw s.nr s')) is
  else bif om then .leaf (.exit (1000000+jv*1000+999)) [] s else .stuck
 |.inr (i,s',is)=>bif om then .leaf (.exit (1000000+jv*1000+i)) [] s' else .stuck
def Uab:Operand->Nat
 |.tmp t=>2 ^ t
 |_=>0
def Yak (o:Oper):Nat:=o.op.operands.toList.foldl (fun m x=>m ||| Uab x) 0
def Uao:List Oper->Nat->Nat
 |[],l=>l
 | o :: os, l =>
  let m:=Uao os l
  let m:=match o.dst,o.guard with
   |some d,none=>bif Rbb m d then m-2 ^ d else m
   |_,_=>m
  m ||| Yak o
def Qao:List (Nat×Nat)->Nat->Nat
 |[],_=>0
 |(i,m)::r,j=>bif Nat.beq i j then m else Qao r j
def Gaf:Code->List (Nat×Nat)->Nat->Nat->Nat
 |.region _ ops _,_,_,l=>Uao ops.toList l
 |.seq a b,ex,rb,l=>Gaf a ex rb (Gaf b ex rb l)
 |.cond c a b,ex,rb,l=>Uab c ||| Gaf a ex rb l ||| Gaf b ex rb l
 |.block id b,ex,rb,l=>Gaf b ((id,l)::ex) rb l
 |.loop b,ex,rb,_=>Gaf b ex rb (Gaf b ex rb (Gaf b ex rb 0))
 |.exit id,ex,_,_=>Qao ex id
 |.ret,_,rb,_=>rb
 |_,_,_,l=>l
inductive Form where
 |sc
 |nil (z:Nat)
 |ex (m:Nat)
 |sn
 |pn
 |rp (z:Nat)
 |keep (l:aM)
 |alias (i:Nat)
 |dead
 deriving Inhabited
def Hae:List (aI×Nat×Nat)->List (aI×Nat×Nat)->Bool
 |[],[]=>true
 |(a,b,c)::r,(a',b',c')::r'=>a.beq0 a'&&Nat.beq b b'&&Nat.beq c c'&&Hae r r'
 |_,_=>false
def Pth.beq0:Pth->Pth->Bool
 |.no,.no=>true
 |.view,.view=>true
 |.path p,.path q=>Hae p q
 |.suf a x,.suf b y=>Nat.beq a b&&x.beq0 y
 |_,_=>false
def uM:List (Nat×Nat)->List (Nat×Nat)->Bool
 |[],[]=>true
 |(a,b)::r,(a',b')::r'=>Nat.beq a a'&&Nat.beq b b'&&uM r r'
 |_,_=>false
mutual
def aM.beq0:aM->aM->Bool
 |.dead,.dead=>true
 |.sc x,.sc y=>x.beq0 y
 |.su g x,.su h y=>g.1.beq0 h.1&&(g.2==h.2)&&x.beq0 y
 |.ex r,.ex r'=>Nat.beq r r'
 |.sn d p n x,.sn d' p' n' x'=>uM d d'&&p.beq0 p'&&(n==n')&&x.beq0 x'
 |.px b o,.px b' o'=>Nat.beq b b'&&Nat.beq o o'
 |.pe l s i o,.pe l' s' i' o'=>l.beq0 l'&&Nat.beq s s'&&i.beq0 i'&&Nat.beq o o'
 |.rp d s x,.rp d' s' x'=>uM d d'&&Nat.beq s s'&&x.beq0 x'
 |.pn,.pn=>true
 |.clo f l,.clo f' l'=>Nat.beq f f'&&oW l l'
 |_,_=>false
def oW:List aM->List aM->Bool
 |[],[]=>true
 |a::r,b::s=>a.beq0 b&&oW r s
 |_,_=>false
end
def yU (a b:RSt):Bool:=decide (a=b)
def Pat (nv:Nat)(r:Nat):List St->Bool
 |[]=>true
 | s :: rest => match s.get (kR r) with
  | some (.root x m v st) => aX nv x && rest.all fun s' => match s'.get (kR r) with
   |some (.root x' m' v' s7)=>x.beq0 x'&&Nat.beq m m'&&Nat.beq v v'&&yU st s7
   |_=>false
  |_=>false
mutual
def zQ:aM->List Nat
 |.ex r=>[r]
 |.sn d _ _ _=>d.map (·.1)
 |.rp d _ _=>d.map (·.1)
 |.pe l _ _ _=>zQ l
 |.clo _ l=>Ea1 l
 |_=>[]
def Ea1:List aM->List Nat
 |[]=>[]
 |a::r=>zQ a++Ea1 r
end
def Vae (s:St):aM->Form
 |.sc _=>.sc
 | .ex r => match s.get (kR r) with
  |some (.root _ m _ .live)=>.ex m
  |some (.root _ _ _ .frozen)=>.sn
  |_=>.dead
 |.sn _ _ true (.c (.rows z []))=>.nil z
 | .sn d p _ _ => match p, d with
  | .view, [(r, k)] => match s.get (kR r) with
   |some (.root _ m v .live)=>bif Nat.beq v k then .ex m else .dead
   |some (.root _ _ _ .frozen)=>.sn
   |_=>.dead
  |_,_=>.sn
 |.pn=>.pn
 |.rp _ z _=>.rp z
 |.pe _ z _ o=>bif Nat.beq o 0 then .rp z else .dead
 |_=>.dead
def Jad:Form->Form->Form
 |.sc,.sc=>.sc
 |.nil z,.nil _=>.nil z
 |.nil _,.ex m=>.ex m
 |.ex m,.nil _=>.ex m
 |.ex m,.ex m'=>.ex (min m m')
 |.nil _,.sn=>.sn
 |.sn,.nil _=>.sn
 |.ex _,.sn=>.sn
 |.sn,.ex _=>.sn
 |.sn,.sn=>.sn
 |.pn,.pn=>.pn
 |.pn,.rp z=>.rp z
 |.rp z,.pn=>.rp z
 |.rp z,.rp _=>.rp z
 |_,_=>.dead
def uA (k j:Nat)(s:St):aM :=
 match s.get k with
 |some (.slot none v)=>(pU v).getD j .dead
 |some (.box _ ls)=>ls.getD j .dead
 |_=>.dead
def Fbb (nv k j:Nat)(ib:List St):Form :=
 match ib with
 |[]=>.dead
 | s :: rest =>
  let l:=uA k j s
  bif l.inScope nv&&rest.all (fun s'=>l.beq0 (uA k j s'))&&(zQ l).all (fun r=>Pat nv r (s::rest)) then .keep l
  else rest.foldl (fun f s'=>Jad f (Vae s' (uA k j s'))) (Vae s l)
def Eb7:Form->Bool
 |.keep _=>true
 |_=>false
structure Pos where
 k:Nat
 j:Nat
 f:Form
 deriving Inhabited
def Tax:Option aN->Option aN->Bool
 |some (.slot none (.one _)),some (.slot none (.one _))=>true
 |some (.slot none (.agg a)),some (.slot none (.agg b))=>Nat.beq a.length b.length
 |some (.box r a),some (.box r' b)=>(r==r')&&Nat.beq a.length b.length
 |_,_=>false
def Cbb:Option aN->Nat
 |some (.slot none v)=>(pU v).length
 |some (.box _ ls)=>ls.length
 |_=>0
def Bbk (old:List Pos)(k j:Nat):Option Form:=(old.find? fun p=>Nat.beq p.k k&&Nat.beq p.j j).map (·.f)
def Abg (s:St)(k j:Nat):Option Nat :=
 match uA k j s with
 |.ex r=>some r
 |_=>none
def Eb8:Form->Bool
 |.ex _=>true
 |_=>false
def aliasOf (ib:List St)(k j:Nat):List Pos->Nat->Option Nat
 |[],_=>none
 | p :: ps, i =>
  bif Eb8 p.f&&ib.all fun s=>match Abg s k j,Abg s p.k p.j with
   |some r,some r'=>Nat.beq r r'
   |_,_=>false
  then some i else aliasOf ib k j ps (i+1)
def Uad:Form->Form
 |.alias _=>.ex 1000
 |f=>f
def Ta7 (nv:Nat)(ib:List St)(old:List Pos)(k:Nat):Nat->Nat->List Pos->List Pos
 |0,_,acc=>acc
 | n + 1, j, acc =>
  let f:=Fbb nv k j ib
  let f:=match Bbk old k j,f with
   | some f0, .keep l => match ib with
    |s::_=>Jad (Uad f0) (Vae s l)
    |[]=>.dead
   |some f0,f=>Jad (Uad f0) f
   |none,f=>f
  let f:=bif Eb8 f then (match aliasOf ib k j acc 0 with|some i=>.alias i|none=>f) else f
  Ta7 nv ib old k n (j+1) (bif Eb7 f then acc else acc++[⟨k,j,f⟩])
def Bbs (ib:List St)(k:Nat):Bool :=
 match ib with
 |s::rest=>rest.all fun s'=>Tax (s.get k) (s'.get k)&&(match s.get k with | some (.slot (some _) _)=>false | some (.slot _ (.tup _))=>false | some (.slot _ .dead)=>false | some _=>true | none=>false)
 |[]=>false
def Bbr (ib:List St)(k:Nat):Bool :=
 match ib with
 |[s]=>Tax (s.get k) (s.get k)
 |_=>Bbs ib k
def range (a:Nat):Nat->List Nat
 |0=>[]
 |n+1=>a::range (a+1) n
def Jab (E:Env)(nb:Nat)(live:Nat)(ib:List St):List Nat :=
 ((range E.ntmps E.ngh).filter fun t=>Bbr ib (kT t)).map kT++((range 0 E.ntmps).filter fun t=>Rbb live t&&Bbr ib (kT t)).map kT++((range 0 nb).filter fun b=>Bbr ib (kB b)).map kB
def Lam (nv:Nat)(ib:List St)(old:List Pos):List Nat->List Pos->List Pos
  |[],acc=>acc
  | k :: ks, acc => Lam nv ib old ks (match ib with
     |s::_=>Ta7 nv ib old k (Cbb (s.get k)) 0 acc
     |[]=>acc)
def Abb (nv:Nat)(ib:List St)(old:List Pos)(ks:List Nat):List Pos:=Lam nv ib old ks []
def Ab2 (c:aN)(j:Nat)(l:aM):aN :=
 match c with
 |.slot g (.one _)=>.slot g (match l with | .dead=>.dead | l=>.one l)
 |.slot g (.agg ls)=>.slot g (.agg (ls.set j l))
 |.box ro ls=>.box ro (ls.set j l)
 |c=>c
def jG (nv nr:Nat):List Pos->Nat->St->St
 |[],_,s=>s
 | p :: ps, i, s =>
  let put (l:aM) (s:St):St:=match s.get p.k with
   |some c=>s.put p.k (some (Ab2 c p.j l))
   |none=>s
  match p.f with
  |.sc=>jG nv nr ps (i+1) (put (.sc (.v (nv+i))) s)
  |.ex m=>jG nv nr ps (i+1) ((put (.ex (nr+i)) s).put (kR (nr+i)) (some (.root (.v (nv+i)) m 0 .live)))
  |.sn=>jG nv nr ps (i+1) (put (.sn [] .no false (.v (nv+i))) s)
  |.nil z=>jG nv nr ps (i+1) (put (.sn [] .no true (.v (nv+i))) s)
  |.rp z=>jG nv nr ps (i+1) (put (.rp [] z (.v (nv+i))) s)
  |.pn=>jG nv nr ps (i+1) (put .pn s)
  |.alias a=>jG nv nr ps (i+1) (put (.ex (nr+a)) s)
  |_=>jG nv nr ps (i+1) (put .dead s)
def Ya1 (s:St)(k j:Nat):List Nat :=
 match uA k j s with
 |.ex r=>[r]
 |.sn [(r,_)] .view _ _=>[r]
 |_=>[]
def Obo:Form->Bool
 |.sn=>true
 |.rp _=>true
 |_=>false
def Obp:Form->Bool
 |.ex _=>true
 |.alias _=>true
 |_=>false
def Laj (nv:Nat)(a6:List Pos)(ib:List St):List Nat->St->St
 |[],s=>s
 | r :: rs, s =>
  let taken:=a6.any fun p=>Obp p.f&&ib.any fun s'=>has (Ya1 s' p.k p.j) r
  let froz:=a6.any fun p=>Obo p.f&&ib.any fun s'=>has (zQ (uA p.k p.j s')) r
  let sameX:=match ib with
   | s0 :: rest => match s0.get (kR r) with
    | some (.root x m v st) => aX nv x && !(yU st .gone) && rest.all fun s' => match s'.get (kR r) with
     |some (.root x' _ _ s7)=>x.beq0 x'&&!(yU s7 .gone)
     |_=>false
    |_=>false
   |[]=>false
  let c:Option aN :=
   bif taken then some (.root (.c .hole) 0 0 .gone)
   else bif Pat nv r ib&&!froz then (match ib with|s0::_=>s0.get (kR r)|[]=>none)
   else bif sameX then (match ib with|s0::_=>(match s0.get (kR r) with|some (.root x m v _)=>some (.root x m v .frozen)|c=>c)|[]=>none)
   else some (.root (.c .hole) 0 0 .gone)
  Laj nv a6 ib rs (s.put (kR r) c)
def Ia0 (s:St):List Nat->Tr aN->Tr aN
 |[],t=>t
 |k::ks,t=>Ia0 s ks (t.set 16 k (s.get k))
def template (E:Env)(nv nb nr fk:Nat)(ib:List St)(keys:List Nat)(a6:List Pos):St :=
 match ib with
 |[]=>⟨.nil,nv,nb,nr,0⟩
 | s :: _ =>
  let s1:St:=⟨Ia0 s keys .nil,nv+a6.length,nb,fk+a6.length,s.nt⟩
  jG nv fk a6 0 (Laj nv a6 ib (range 0 nr) s1)
def Mbn (j:Nat)(l:aM):aN->Option aN
 |.slot none (.one _)=>bif Nat.beq j 0 then some (.slot none (.one l)) else none
 |.slot none (.agg ls)=>some (.slot none (.agg (ls.set j l)))
 |.box ro ls=>some (.box ro (ls.set j l))
 |_=>none
def putAt (k j:Nat)(l:aM)(s:St):St :=
 match (s.get k).bind (Mbn j l) with
 |some c=>s.put k (some c)
 |none=>s
def Iat (E:Env)(p:Pos)(nr i:Nat)(s:St):Option (List Step×St×aI) :=
 let put (l:aM) (s:St):St:=putAt p.k p.j l s
 let rNew:=nr+i
 match p.f,uA p.k p.j s with
 |.sc,.sc x=>some ([],s,x)
 | .alias a, .ex r => match s.get (kR r) with
  |some (.root _ _ _ (.fwd r'))=>bif Nat.beq r' (nr+a) then some ([],put (.ex (nr+a)) s,.c .undef) else jD 5001
  |_=>jD 5002
 |.nil z,.sn [] .no true x=>some ([],s,x)
 | .ex m, .ex r => match s.get (kR r) with
  |some (.root x m' v .live)=>bif Nat.ble m m' then some ([],put (.ex rNew) (s.puts [(kR r,.root (.c .hole) 0 0 (.fwd rNew)),(kR rNew,.root x m 0 .live)]),x) else jD 5003
  |_=>jD 5004
 |.ex m,.sn [] _ true (.c (.rows z []))=>some ([],put (.ex rNew) (s.puts [(kR rNew,.root (.c (.rows z [])) m 0 .live)]),.c (.rows z []))
 | .ex m, .sn [(r, k)] .view _ x => match s.get (kR r) with
  |some (.root _ m' v .live)=>bif Nat.ble m m'&&Nat.beq v k then some ([],put (.ex rNew) (s.puts [(kR r,.root (.c .hole) 0 0 .gone),(kR rNew,.root x m 0 .live)]),x) else jD 5005
  |_=>jD 5006
 | .sn, l =>
  match ((do let s <- vJ l;let fr <- dD (s.deps.map (·.1));RdM.ret (s.x,fr):RdM (aI×List (Nat×aN)))).eval s.get with
  |some (x,fr)=>some ([],put (.sn [] .no false x) (s.puts fr),x)
  |none=>jD 5007
 |.rp z,.pn=>some ([],put (.rp [] z (.c (.rows z []))) s,.c (.rows z []))
 | .rp z, .rp deps z' x =>
  match ((do let d <- tF deps;dD (d.map (·.1)):RdM (List (Nat×aN)))).eval s.get with
  |some fr=>some ([],put (.rp [] z x) (s.puts fr),x)
  |none=>jD 5008
 | .rp z, .pe l z' i 0 =>
  match ((do let s <- vJ l;let fr <- dD (s.deps.map (·.1));RdM.ret (s.x,fr):RdM (aI×List (Nat×aN)))).eval s.get with
  |some (x,fr)=>some ([.prim (.one z') [x,i] 1],{ (put (.rp [] z (.v s.nv)) (s.puts fr)) with nv:=s.nv+1 },.v s.nv)
  |none=>jD 5009
 |.pn,.pn=>some ([],s,.c .undef)
 |.dead,_=>some ([],s,.c .undef)
 |_,_=>jD (4000000+1000*p.k+p.j)
def jA (E:Env)(nr:Nat):List Pos->Nat->St->Option (List Step×St×List aI)
 |[],_,s=>some ([],s,[])
 | p :: ps, i, s => do
  let (l,s,x) <- Iat E p nr i s
  let (l',s,xs) <- jA E nr ps (i+1) s
  some (l++l',s,x::xs)
def gJ (τ:St):List Nat->St->Option St
 |[],s=>some s
 | r :: rs, s =>
  match τ.get (kR r),s.get (kR r) with
  |some (.root _ _ _ .frozen),some (.root x m v .live)=>gJ τ rs (s.put (kR r) (some (.root x m v .frozen)))
  |_,_=>gJ τ rs s
def Kao (n:Nat)(xs:List aI):aI->aI
 |.v i=>bif Qbg i n then .v i else xs.getD (i-n) (.c .hole)
 |.c d=>.c d
def Nbj (n:Nat)(xs:List aI):Pth->Pth
 |.path p=>.path (p.map fun x=>(Kao n xs x.1,x.2))
 |.suf sz lo=>.suf sz (Kao n xs lo)
 |p=>p
def Pak (br cS r:Nat):Nat:=bif Nat.ble br r then cS+(r-br) else r
mutual
def aM.sub (n:Nat)(xs:List aI)(br cS:Nat):aM->aM
 |.sc x=>.sc (Kao n xs x)
 |.su g x=>.su (Kao n xs g.1,g.2) (Kao n xs x)
 |.ex r=>.ex (Pak br cS r)
 |.sn d p e x=>.sn d (Nbj n xs p) e (Kao n xs x)
 |.pe l s i o=>.pe (l.sub n xs br cS) s (Kao n xs i) o
 |.rp d s x=>.rp d s (Kao n xs x)
 |.clo f l=>.clo f (gL n xs br cS l)
 |l=>l
def gL (n:Nat)(xs:List aI)(br cS:Nat):List aM->List aM
 |[]=>[]
 |a::r=>a.sub n xs br cS::gL n xs br cS r
end
def vQ (a b:aM):Bool :=
 match a with
 |.dead=>Kap b
 | .sn d .no false x => match b with
  |.sn d' _ _ x'=>uM d d'&&x.beq0 x'
  |_=>false
 |a=>a.beq0 b
def dN:List aM->List aM->Bool
 |[],[]=>true
 |a::r,b::s=>vQ a b&&dN r s
 |_,_=>false
def bR (n:Nat)(xs:List aI)(br cS:Nat):Option aN->Option aN->Bool
 |none,_=>true
 |some (.slot none .dead),_=>true
 |some (.slot none (.one a)),some (.slot none (.one b))=>vQ (a.sub n xs br cS) b
 |some (.slot none (.agg a)),some (.slot none (.agg b))=>dN (gL n xs br cS a) b
 |some (.box r a),some (.box r' b)=>(r==r')&&dN (gL n xs br cS a) b
 |some (.root x m v .gone),_=>true
 |some (.root x m v st),some (.root x' m' v' s7)=>yU st s7&&Nat.beq m m'&&Nat.beq v v'&&(Kao n xs x).beq0 x'
 |_,_=>false
def zY (n:Nat)(xs:List aI)(br cS:Nat)(τ s:St):List Nat->Bool
 |[]=>true
 |k::ks=>bR n xs br cS (τ.get k) (s.get k)&&zY n xs br cS τ s ks
def Aaa (n:Nat)(xs:List aI)(br cS:Nat)(τ s:St):List Nat->Bool
 |[]=>true
 |r::rs=>bR n xs br cS (τ.get (kR r)) (s.get (kR (Pak br cS r)))&&Aaa n xs br cS τ s rs
def lI (E:Env)(n:Nat)(xs:List aI)(dw br cS len:Nat)(τ s:St):Bool :=
 zY n xs br cS τ s ((range 0 (E.ntmps+E.ngh)).map kT++(range 0 τ.nb).map kB)&&Aaa n xs br cS τ s (range 0 dw++range br len)
def jV (b c k:Nat):Nat:=bif Nat.beq k b then c else bif Nat.beq k c then b else k
mutual
def aM.swap (b c:Nat):aM->aM
 |.px k o=>.px (jV b c k) o
 |.pe l s i o=>.pe (l.swap b c) s i o
 |.clo f l=>.clo f (bP b c l)
 |l=>l
def bP (b c:Nat):List aM->List aM
 |[]=>[]
 |a::r=>a.swap b c::bP b c r
end
def Tal (b c:Nat):SV->SV
 |.dead=>.dead
 |.one l=>.one (l.swap b c)
 |.agg ls=>.agg (bP b c ls)
 |.tup ts=>.tup (ts.map fun t=>(t.1,bP b c t.2))
def lY (b c:Nat):aN->aN
 |.slot g v=>.slot g (Tal b c v)
 |.box ro ls=>.box ro (bP b c ls)
 |.root x m v st=>.root x m v st
def kU (b c k:Nat):Nat:=bif Nat.beq (k % 3) 1 then kB (jV b c (k / 3)) else k
def Lab (f:Nat->Option aN):List Nat->Tr aN->Tr aN
 |[],t=>t
 |k::ks,t=>Lab f ks (t.set 16 k (f k))
def St.swap (s:St)(b c:Nat):St:={ s with tr:=Lab (fun k=>(s.get (kU b c k)).map (lY b c)) ((range 0 s.nt).map kT++(range 0 s.nb).map kB++(range 0 s.nr).map kR) s.tr }
def Oad (E:Env)(τ:St):List Nat->St->St
 |[],s=>s
 | t :: ts, s => Oad E τ ts (match τ.get (kT t), s.get (kT t) with
  | some (.slot none (.one (.px b 0))), some (.slot none (.one (.px c 0))) =>
   bif !(Nat.beq b c)&&Nat.ble E.nbx b&&Nat.ble E.nbx c&&Qbg b s.nb&&Qbg c s.nb then s.swap b c else s
  |_,_=>s)
def Fat (E:Env)(n dw br:Nat)(a6:List Pos)(τ:St)(kind:Kind)(s:St):Option (Tm St):=do
 let (ls,s1,xs) <- jA E s.nr a6 0 { s with nr:=s.nr+a6.length }
 let s2 <- gJ τ (range 0 dw) s1
 bif lI E n xs dw br s.nr a6.length τ s2&&lM s.tr s.nr a6.length&&Nat.ble dw s.nr&&dR s.nv ls&&xs.all (aX (s.nv+bD ls)) then some (mJ none (.leaf kind xs s2) ls) else jD 1
def coerce (E:Env)(n dw br:Nat)(a6:List Pos)(τ:St)(kind:Kind)(s:St):Option (Tm St):=Fat E n dw br a6 τ kind (Oad E τ E.pxs s)
def Tm.no {β:Type}(f:Kind->Bool):Tm β->Bool
 |.leaf k _ _=>!(f k)
 |.stuck=>true
 |.lt _ _ _ _ k=>k.no f
 |.call _ _ _ _ _ k=>k.no f
 |.ite _ t e=>t.no f&&e.no f
 |.bind _ t k=>t.no f&&k.no f
 |.loop _ b=>b.no f
def nG:Kind->Bool
 |.fall=>true
 |_=>false
def Ma9 (id:Nat):Kind->Bool
 |.fall=>true
 |.exit j=>Nat.beq id j
 |_=>false
def mW (id:Nat):Kind->Bool
 |.exit j=>Nat.beq id j
 |_=>false
def Jah (i:Nat):Kind->Bool
 |.yield j=>Nat.beq i j
 |_=>false
def Qae:Kind->Bool
 |.cont=>true
 |_=>false
def Tm.falls:Tm St->List St
 |.leaf .fall _ s=>[s]
 |.leaf _ _ _=>[]
 |.stuck=>[]
 |.lt _ _ _ _ k=>k.falls
 |.call _ _ _ _ _ k=>k.falls
 |.ite _ t e=>t.falls++e.falls
 |.bind _ _ k=>k.falls
 |.loop _ _=>[]
def Tm.exits (id:Nat):Tm St->List St
 |.leaf (.exit j) _ s=>bif Nat.beq j id then [s] else []
 |.leaf _ _ _=>[]
 |.stuck=>[]
 |.lt _ _ _ _ k=>k.exits id
 |.call _ _ _ _ _ k=>k.exits id
 |.ite _ t e=>t.exits id++e.exits id
 |.bind _ t k=>t.exits id++k.exits id
 |.loop _ b=>b.exits id
def Tm.tailExits (id:Nat):Tm St->List St
 |.leaf (.exit j) _ s=>bif Nat.beq j id then [s] else []
 |.leaf _ _ _=>[]
 |.stuck=>[]
 |.lt _ _ _ _ k=>k.tailExits id
 |.call _ _ _ _ _ k=>k.tailExits id
 |.ite _ t e=>t.tailExits id++e.tailExits id
 |.bind _ t k=>k.tailExits id
 |.loop _ b=>[]
def Tm.graft (f:St->Option (Tm St)):Tm St->Option (Tm St)
 |.leaf .fall _ s=>f s
 |.leaf k xs s=>some (.leaf k xs s)
 |.stuck=>some .stuck
 |.lt g p xs n k=>(k.graft f).map fun k=>.lt g p xs n k
 |.call g c xs n o k=>(k.graft f).map fun k=>.call g c xs n o k
 |.ite c t e=>(t.graft f).bind fun t=>(e.graft f).map fun e=>.ite c t e
 |.bind i t k=>bif t.no nG then (k.graft f).map fun k=>.bind i t k else none
 |.loop i b=>bif b.no nG then some (.loop i b) else none
def Tm.exitFall (id:Nat):Tm St->Option (Tm St)
 |.leaf (.exit j) xs s=>some (bif Nat.beq id j then .leaf .fall [] s else .leaf (.exit j) xs s)
 |.leaf k xs s=>some (.leaf k xs s)
 |.stuck=>some .stuck
 |.lt g p xs n k=>(k.exitFall id).map fun k=>.lt g p xs n k
 |.call g c xs n o k=>(k.exitFall id).map fun k=>.call g c xs n o k
 |.ite c t e=>(t.exitFall id).bind fun t=>(e.exitFall id).map fun e=>.ite c t e
 |.bind i t k=>bif t.no (mW id) then (k.exitFall id).map fun k=>.bind i t k else none
 |.loop i b=>bif b.no (mW id) then some (.loop i b) else none
def Tm.turn (out:Kind)(ij:Kind->Bool)(f:St->Option (Tm St)):Tm St->Option (Tm St)
 |.leaf k xs s=>bif ij k then f s else some (.leaf k xs s)
 |.stuck=>some .stuck
 |.lt g p xs n k=>(k.turn out ij f).map fun k=>.lt g p xs n k
 |.call g c xs n o k=>(k.turn out ij f).map fun k=>.call g c xs n o k
 |.ite c t e=>(t.turn out ij f).bind fun t=>(e.turn out ij f).map fun e=>.ite c t e
 | .bind i t k =>
  bif Jah i out then (bif t.no ij then (k.turn out ij f).map fun k=>.bind i t k else none)
  else (t.turn out ij f).bind fun t=>(k.turn out ij f).map fun k=>.bind i t k
 |.loop i b=>bif Qae out then (bif b.no ij then some (.loop i b) else none) else (b.turn out ij f).map fun b=>.loop i b
def Eb1 (l:List St)(n:Nat):Nat:=l.foldl (fun m s=>max m s.nr) n
def Mas (τ:St)(dw:Nat):List (Nat×Nat)->Bool
 |[]=>true
 | (r, k) :: d => Qbg r dw && (match τ.get (kR r) with
  |some (.root _ _ _ .gone)=>true
  |some (.root _ _ _ (.fwd _))=>true
  |some (.root _ _ v _)=>Nat.ble k v
  |_=>false)&&Mas τ dw d
mutual
def aM.wf (τ:St)(dw:Nat):aM->Bool
 |.ex r=>(τ.get (kR r)).isSome
 |.sn d _ _ _=>Mas τ dw d
 |.px b _=>(τ.get (kB b)).isSome
 |.pe l _ _ _=>l.wf τ dw
 |.rp d _ _=>Mas τ dw d
 |.clo _ l=>lV τ dw l
 |_=>true
def lV (τ:St)(dw:Nat):List aM->Bool
 |[]=>true
 |a::r=>a.wf τ dw&&lV τ dw r
end
def pG (τ:St)(dw k:Nat):Option aN->Bool
 |none=>true
 | some c => bQ τ.nv c && (match c with
  |.slot none .dead=>Nat.beq (k % 3) 0
  |.slot none (.one l)=>Nat.beq (k % 3) 0&&l.wf τ dw
  |.slot none (.agg ls)=>Nat.beq (k % 3) 0&&lV τ dw ls
  |.box _ ls=>Nat.beq (k % 3) 1&&lV τ dw ls
  |.root _ _ _ (.fwd _)=>false
  |.root _ _ _ _=>Nat.beq (k % 3) 2
  |_=>false)
def Dau (τ:St)(dw:Nat):List Nat->Bool
 |[]=>true
 |k::ks=>pG τ dw k (τ.get k)&&Dau τ dw ks
def Pa3 (τ:St):List Nat->Bool
 |[]=>true
 |k::ks=>(τ.get k).isNone&&Pa3 τ ks
def Bax (E:Env)(s0:St)(br len:Nat)(τ:St):Bool :=
 Nat.beq τ.nv (s0.nv+len)&&Nat.ble E.ntmps τ.nt&&Nat.ble τ.nt (E.ntmps+E.ngh)&&Nat.beq τ.nr (br+len)&&Nat.ble s0.nr br &&
 Pa3 τ ((range s0.nr (br-s0.nr)).map kR)&&Dau τ s0.nr ((range 0 τ.nt).map kT++(range 0 τ.nb).map kB++((range 0 s0.nr++range br len).map kR))
def join (E:Env)(live:Nat)(s0:St)(i:Nat)(ij:Kind->Bool)(ends:List St)(t:Tm St):Option (Tm St×St) :=
 let keys:=Jab E s0.nb live ends
 let a6:=Abb s0.nv ends [] keys
 let fk:=Eb1 ends s0.nr
 let τ:=template E s0.nv s0.nb s0.nr fk ends keys a6
 bif Bax E s0 fk a6.length τ then (t.turn (.yield i) ij (coerce E s0.nv s0.nr fk a6 τ (.yield i))).map fun t=>(t,τ) else jD 6
def Oac (a b:List Pos):Bool :=
 match a,b with
 |[],[]=>true
 | p :: ps, q :: qs => Nat.beq p.k q.k && Nat.beq p.j q.j && (match p.f, q.f with
  |.sc,.sc=>true
  |.nil _,.nil _=>true
  |.ex m,.ex m'=>Nat.beq m m'
  |.sn,.sn=>true
  |.pn,.pn=>true
  |.rp _,.rp _=>true
  |.dead,.dead=>true
  |.alias i,.alias j=>Nat.beq i j
  |_,_=>false)&&Oac ps qs
 |_,_=>false
def Ka4 (τ:St)(ends:List St):List Nat->Bool
 |[]=>true
 | r :: rs => (match τ.get (kR r) with
  | some (.root _ m v st) => yU st .gone || ends.all fun s => match s.get (kR r) with
   |some (.root _ m' v' s7)=>(Nat.beq m m'&&Nat.beq v v'&&yU st s7)||(yU st .frozen&&yU s7 .live)
   |_=>false
  |_=>true)&&Ka4 τ ends rs
def Eay (E:Env)(live:Nat)(s:St)(body:St->Option (Tm St)):Nat->List Pos->List Nat->Nat->List St->Option (Tm St)
 |0,_,_,_,_=>jD 3
 | fuel + 1, a6, keys, fk, seen =>
  let τ:=template E s.nv s.nb s.nr fk (s::seen) keys a6
  match body τ with
  |none=>none
  | some tb =>
   let ends:=tb.falls.map (Oad E s E.pxs)
   let keys':=Jab E s.nb live (s::ends)
   let plan':=Abb s.nv (s::ends) a6 keys'
   bif Oac a6 plan'&&Nat.beq keys.length keys'.length&&Ka4 τ ends (range 0 s.nr) then do
    let (pre,s1,xs) <- jA E s.nr a6 0 { s with nr:=s.nr+a6.length }
    let s2 <- gJ τ (range 0 s.nr) s1
    bif lI E s.nv xs s.nr fk s.nr a6.length τ s2&&lM s.tr s.nr a6.length&&pre.isEmpty&&Bax E s fk a6.length τ then do
     let tb <- tb.turn .cont nG (coerce E s.nv s.nr fk a6 τ .cont)
     some (.loop xs tb)
    else jD 2
   else Eay E live s body fuel plan' keys' (Eb1 ends fk) ends
def Va0:Operand->Option Bool
 |.const (.bool b)=>some b
 |_=>none
def Mad:Code->Nat
 |.region r _ _=>r
 |.seq a _=>Mad a
 |.cond _ a _=>Mad a
 |.block _ b=>Mad b
 |.loop b=>Mad b
 |_=>0
def hintOf:List (Nat×List (Nat×Nat×Nat×Nat)×List Nat×Nat×List Nat)->Nat->Option (List (Nat×Nat×Nat×Nat)×List Nat×Nat×List Nat)
 |[],_=>none
 |(k,h)::r,n=>bif Nat.beq k n then some h else hintOf r n
def Fba (c z:Nat):Form :=
 match c with
 |0=>.sc
 |1=>.nil z
 |2=>.ex z
 |3=>.sn
 |4=>.pn
 |5=>.rp z
 |6=>.alias z
 |_=>.dead
def Za8 (s:St):List Nat->St->St
 |[],t=>t
 | d :: ds, t => Za8 s ds (t.put (kR (d / 3)) (match d % 3 with
  |0=>some (.root (.c .hole) 0 0 .gone)
  |1=>s.get (kR (d / 3))
  | _ => match s.get (kR (d / 3)) with
   |some (.root x m v _)=>some (.root x m v .frozen)
   |c=>c))
def Ia8 (E:Env)(s:St)(body:St->Option (Tm St))(h:List (Nat×Nat×Nat×Nat)×List Nat×Nat×List Nat):Option (Tm St) :=
 let a6:List Pos:=h.1.map fun p=>⟨p.1,p.2.1,Fba p.2.2.1 p.2.2.2⟩
 let fk:=s.nr+h.2.2.1
 let τ:=jG s.nv fk a6 0 (Za8 s h.2.2.2 ⟨Ia0 s h.2.1 .nil,s.nv+a6.length,s.nb,fk+a6.length,s.nt⟩)
 match body τ with
 |none=>none
 | some tb => do
  let (pre,s1,xs) <- jA E s.nr a6 0 { s with nr:=s.nr+a6.length }
  let s2 <- gJ τ (range 0 s.nr) s1
  bif lI E s.nv xs s.nr fk s.nr a6.length τ s2&&lM s.tr s.nr a6.length&&pre.isEmpty&&Bax E s fk a6.length τ then do
   let tb <- tb.turn .cont nG (coerce E s.nv s.nr fk a6 τ .cont)
   some (.loop xs tb)
  else jD 2
def sxC (E:Env)(om:Bool)(rb:Nat):Code->List (Nat×Nat)->Nat->St->Option (Tm St)
 |.skip,_,_,s=>some (.leaf .fall [] s)
 |.label _,_,_,s=>some (.leaf .fall [] s)
 |.ret,_,_,s=>some (.leaf .ret [] s)
 |.exit id,_,_,s=>some (.leaf (.exit id) [] s)
 |.region jv ops draw,_,_,s=>some (Iae E om jv ops.toList draw s)
 | .seq a b, ex, live, s => do
  let mid:=Gaf b ex rb live
  let t <- sxC E om rb a ex mid s
  bif t.no nG then some t else
  match t.falls with
  |[_]=>t.graft (sxC E om rb b ex live)
  | ends => do
   let (t,τ) <- join E mid s 0 nG ends t
   let k <- sxC E om rb b ex live τ
   some (.bind 0 t k)
 | .cond c a b, ex, live, s =>
  match Va0 c with
  |some true=>sxC E om rb a ex live s
  |some false=>sxC E om rb b ex live s
  |none =>
  match s.get (match c with|.tmp t=>kT t|_=>0),c with
  | some (.slot none (.one (.sc x))), .tmp t => bif !(aX s.nv x && Qbg t E.ntmps) then some .stuck else do
   let t <- sxC E om rb a ex live s
   let e <- sxC E om rb b ex live s
   some (.ite x t e)
  |_,_=>some .stuck
 | .block id b, ex, live, s => do
  let t <- sxC E om rb b ((id,live)::ex) live s
  bif t.no (mW id) then some t else
  match t.falls,t.exits id,t.tailExits id with
  |[],[_],[_]=>t.exitFall id
  | fs, es, _ => do
   let (t,τ) <- join E live s (id+1) (Ma9 id) (fs++es) t
   some (.bind (id+1) t (.leaf .fall [] τ))
 | .loop b, ex, _, s =>
  let live':=Gaf (.loop b) ex rb 0
  match hintOf E.hints (Mad b) with
  |some h=>Ia8 E s (sxC E om rb b ex live') h
  |none=>Eay E live' s (sxC E om rb b ex live') 9 [] (Jab E s.nb live' [s]) s.nr []
 |.scope _,_,_,_=>some .stuck
 |.goto _,_,_,_=>some .stuck
 |.rangeFunc _ _ _ _,_,_,_=>some .stuck
 |.refuse _,_,_,_=>some .stuck
def iB (i nr:Nat):LS->aM×List (Nat×aN)×Nat×Nat
 |.sc=>(.sc (.v i),[],i+1,nr)
 |.fz nie=>(.sn [] .no nie (.v i),[],i+1,nr)
 |.mu m=>(.ex nr,[(kR nr,.root (.v i) m 0 .live)],i+1,nr+1)
 |.ow m=>(.ex nr,[(kR nr,.root (.v i) m 0 .live)],i+1,nr+1)
 |.px b=>(.px b 0,[],i,nr)
 |.clo f cs=>(.clo f (cs.map fun c=>match c with | .px b=>.px b 0 | _=>.dead),[],i,nr)
 |.rp z=>(.rp [] z (.v i),[],i+1,nr)
def dE (i nr:Nat):List LS->List aM×List (Nat×aN)×Nat×Nat
 |[]=>([],[],i,nr)
 | s :: ss =>
  let (l,u,i,nr):=iB i nr s
  let (ls,us,i,nr):=dE i nr ss
  (l::ls,u++us,i,nr)
def iR (t i nr:Nat):List (Bool×List LS)->List (Nat×aN)×Nat×Nat
 |[]=>([],i,nr)
 | (a, ss) :: ps =>
  let (ls,u,i,nr):=dE i nr ss
  let (us,i,nr):=iR (t+1) i nr ps
  ((kT t,.slot none (match Paj a ls with|some v=>v|none=>.dead))::u++us,i,nr)
def gB (i nr:Nat):BS->aM×List (Nat×aN)×Nat×Nat
 |.sc=>(.sc (.v i),[],i+1,nr)
 |.fz nie=>(.sn [] .no nie (.v i),[],i+1,nr)
 |.ow m=>(.ex nr,[(kR nr,.root (.v i) m 0 .live)],i+1,nr+1)
 |.ot=>(.dead,[],i,nr)
def fT (i nr:Nat):List (BS×BO)->List aM×List (Nat×aN)×Nat×Nat
 |[]=>([],[],i,nr)
 | (s, _) :: ss =>
  let (l,u,i,nr):=gB i nr s
  let (ls,us,i,nr):=fT i nr ss
  (l::ls,u++us,i,nr)
def jK (b i nr:Nat):List (Bool×List (BS×BO))->List (Nat×aN)×Nat×Nat
 |[]=>([],i,nr)
 | (ro, cs) :: bs =>
  let (ls,u,i,nr):=fT i nr cs
  let (us,i,nr):=jK (b+1) i nr bs
  ((kB b,.box ro ls)::u++us,i,nr)
def dU (r:Nat):List LS->List Nat
 |[]=>[]
 |.mu _::ss=>r::dU (r+1) ss
 |.ow _::ss=>dU (r+1) ss
 |_::ss=>dU r ss
def pF (t:Nat):List aM->List (Nat×aN)
 |[]=>[]
 |l::ls=>(kT t,.slot none (.one l))::pF (t+1) ls
def La8 (s:Sig):List aM:=(dU 0 (s.params.flatMap (·.2))).map aM.ex++(range 0 s.boxes.length).map fun b=>aM.px b 0
def lH (s:Sig):Nat:=(La8 s).length
def entry (s:Sig)(ntmps:Nat):St :=
 let (u,i,nr):=iR 0 0 0 s.params
 let (v,i,nr):=jK 0 i nr s.boxes
 (St.puts ⟨.nil,i,s.boxes.length,nr,ntmps+lH s⟩ (u++v++pF ntmps (La8 s)))
structure Fin where
 xs:List aI
 own:List (Nat×Nat×Nat)
 q:Nat
 frz:List Nat
 lets:List Step
 bxs:List Nat
def wV (F:Fin)(r m:Nat)(x:aI):Fin:={ F with xs:=F.xs++[x],own:=F.own++[(r,2*F.q,m)],q:=F.q+1 }
def Qam (F:Fin)(z:Nat):Fin:={ F with xs:=F.xs++[.c (.rows z [])],q:=F.q+1 }
def Mag (F:Fin)(m:Nat):aM->RdM Fin
 |.sn [] _ true (.c (.rows z []))=>.ret (Qam F z)
 | .ex r => do
  match <- rdK (kR r) with
  | some (.root x m' v .live) => do
   bG (Nat.ble m m')
   .ret (wV F r m x)
  |_=>.no
 | .sn [(r, k)] .view _ x => do
  match <- rdK (kR r) with
  | some (.root _ m' v .live) => do
   bG (Nat.ble m m'&&Nat.beq v k)
   .ret (wV F r m x)
  |_=>.no
 |_=>.no
def Mai (F:Fin)(l:aM):RdM Fin:=do
 let s <- vJ l
 .ret { F with xs:=F.xs++[s.x],frz:=F.frz++s.deps.map (·.1) }
def Fai (nv:Nat)(F:Fin):LR->aM->RdM Fin
 |.sc,.sc x=>.ret { F with xs:=F.xs++[x] }
 |.fz,l=>Mai F l
 |.ow m,l=>Mag F m l
 |.rp z,.pn=>.ret { F with xs:=F.xs++[.c (.rows z [])] }
 | .rp z, .rp deps z' x => do
  let d <- tF deps
  .ret { F with xs:=F.xs++[x],frz:=F.frz++d.map (·.1) }
 | .rp z, .pe l z' i 0 => do
  let s <- vJ l
  .ret { F with xs:=F.xs++[.v (nv+bD F.lets)],frz:=F.frz++s.deps.map (·.1),lets:=F.lets++[.prim (.one z') [s.x,i] 1] }
 |_,_=>.no
def Bag (F:Fin):BO->aM->RdM Fin
 |.sc,.sc x=>.ret { F with xs:=F.xs++[x] }
 |.fz,l=>Mai F l
 |.ow m,l=>Mag F m l
 |.dead,l=>bif Kap l then .ret { F with xs:=F.xs++[.c .hole] } else .no
 |_,_=>.no
def iL:Fin->List BO->List aM->RdM Fin
 |F,[],[]=>.ret F
 | F, s :: ss, l :: ls => do
  let F <- Bag F s l
  iL F ss ls
 |_,_,_=>.no
def gQ (nv:Nat):Fin->List LR->List aM->RdM Fin
 |F,[],[]=>.ret F
 | F, s :: ss, l :: ls => do
  let F <- (match s,l with
   | .bx cs, .px b 0 => do
    match <- rdK (kB b) with
    |some (.box false bs)=>iL { F with bxs:=F.bxs++[b] } cs bs
    |_=>.no
   |s,l=>Fai nv F s l)
  gQ nv F ss ls
 |_,_,_=>.no
def mZ (E:Env)(nv:Nat):Fin->List (Bool×List LR)->List ResultVar->RdM Fin
 |F,[],[]=>.ret F
 | F, (a, ss) :: rs, .tmp t :: vs => do
  match <- rdK (kT t) with
  | some (.slot none v) => do
   bG (Qbg t E.ntmps)
   let ls <- lU (jB a v)
   let F <- gQ nv F ss ls
   mZ E nv F rs vs
  |_=>.no
 | F, (a, ss) :: rs, .cell t ty :: vs => do
  let ti <- lU (E.ti ty)
  bG ((a==ti.agg)&&Nat.beq ss.length ti.size&&(ti.agg||Nat.beq ti.size 1)&&Qbg t E.ntmps)
  match <- rdK (kT t) with
  | some (.slot none (.one (.px b off))) => do
   match <- rdK (kB b) with
   | some (.box _ ls) => do
    let F <- gQ nv F ss ((ls.drop off).take ti.size)
    mZ E nv F rs vs
   |_=>.no
  |_=>.no
 |_,_,_=>.no
def dJ:List LS->List Nat
 |[]=>[]
 |.mu m::ss=>m::dJ ss
 |_::ss=>dJ ss
def Caf (t:Nat):Nat->List Nat->Fin->RdM Fin
 |_,[],F=>.ret F
 | j, d :: ds, F => do
  match <- rdK (kT (t+j)) with
  | some (.slot none (.one (.ex r))) => do
   match <- rdK (kR r) with
   | some (.root x m _ .live) => do
    bG (Nat.ble d m)
    Caf t (j+1) ds { F with xs:=F.xs++[x],own:=F.own++[(r,2*j+1,d)] }
   |_=>.no
  |_=>.no
def nS (t:Nat):Fin->Nat->List (Bool×List (BS×BO))->RdM Fin
 |F,_,[]=>.ret F
 | F, b, (ro, cs) :: r => do
  bif ro then nS t F (b+1) r else
  match <- rdK (kT (t+b)) with
  | some (.slot none (.one (.px b' 0))) => do
   bG (Nat.beq b' b)
   match <- rdK (kB b) with
   | some (.box false ls) => do
    let F <- iL F (cs.map (·.2)) ls
    nS t F (b+1) r
   |_=>.no
  |_=>.no
def Abf (E:Env)(s:Sig)(results:List ResultVar)(nv:Nat):RdM Fin:=do
 let F <- mZ E nv ⟨[],[],0,[],[],[]⟩ s.results results
 let ms:=dJ (s.params.flatMap (·.2))
 let F <- Caf E.ntmps 0 ms F
 nS (E.ntmps+ms.length) F 0 s.boxes
def finish (E:Env)(s:Sig)(results:List ResultVar)(st:St):Option (Tm St) :=
 match (Abf E s results st.nv).eval st.get with
 | some F =>
  bif distinct (F.own.map (·.1))&&!(meets (F.own.map (·.1)) F.frz)&&!(F.bxs.any fun b=>Qbg b s.boxes.length)&&dR st.nv F.lets then
   some (mJ none (.leaf .ret F.xs st) F.lets) else none
 |none=>none
def Za6 (E:Env)(om:Bool)(s:Sig)(body:Code)(live:Nat):Option (Tm St) :=
 let e:=entry s E.ntmps
 bif Dau e e.nr ((range 0 e.nt).map kT++(range 0 e.nb).map kB++(range 0 e.nr).map kR) then sxC E om live body [] live e else jD 7
def Bbf (l:List ResultVar):Nat:=l.foldl (fun m r=>match r with|.tmp t=>m ||| 2 ^ t|.cell t _=>m ||| 2 ^ t) 0
def Jbp:Kind->Bool
 |.ret=>true
 |.fall=>true
 |_=>false
def Rac (E:Env)(s:Sig)(fn:Func):Option (Tm Unit) :=
 match fn.body with
 |none=>none
 | some c => bif !(Nat.ble s.params.length fn.ntmps) then none else do
  let E:={ E with ntmps:=fn.ntmps,ngh:=lH s,nbx:=s.boxes.length }
  let t <- Za6 E false s c (Bbf fn.results.toList)
  let t <- t.turn .ret Jbp fun st=>(match finish E s fn.results.toList st with|some t=>some t|none=>some .stuck)
  some t.strip
inductive Sc:Value->D->Prop
 |int (k:IntKind) (n:Int):Sc (.int k n) (.int k n)
 |bool (b:Bool):Sc (.bool b) (.bool b)
 |str (l:List UInt8):Sc (.string ⟨l.toArray⟩) (.str l)
inductive Rd (ok:Nat->Prop) (w:World):Value->D->Prop
 |sc {v:Value} {d:D} (h:Sc v d):Rd ok w v d
 |hole (v:Value) (h1:v.oneCell'=true):Rd ok w v .hole
 | rows (A : Option Addr) (a : Addr) (n c sz : Nat) (rs : List (List D)) (vs : Nat -> Nat -> Value)
   (hn:rs.length=n) (hc:n<=c) (hA:n=0\/A=some a) (dm:∀ r∈rs,r.length=sz)
   (bc:∀ i r,rs[i]?=some r->∀ j d,r[j]?=some d->ok a.block/\w.cell? (a.add (i*sz+j))=some (vs i j))
   (b5:∀ i r,rs[i]?=some r->∀ j d,r[j]?=some d->Rd ok w (vs i j) d) :
   Rd ok w (.slice A n c) (.rows sz rs)
inductive Ow where
 |frz
 |slc (r:Nat) (p:List Nat)
 |box (b:Nat)
 |oth
 deriving DecidableEq
inductive Rp (own:Nat->Ow) (w:World) (r:Nat):List Nat->Nat->Value->D->Prop
 |sc {p:List Nat} {m:Nat} {v:Value} {d:D} (h:Sc v d):Rp own w r p m v d
 |hole {p:List Nat} {m:Nat} (v:Value) (h1:v.oneCell'=true):Rp own w r p m v .hole
 |fz {p:List Nat} {v:Value} {d:D} (h:Rd (fun b=>own b=.frz) w v d):Rp own w r p 0 v d
 | sl {p : List Nat} {m : Nat} (A : Option Addr) (a : Addr) (n c sz : Nat) (rs : List (List D)) (vs : Nat -> Nat -> Value)
   (hn:rs.length=n) (hc:n<=c) (hA:A=some a\/(A=none/\c=0)) (dm:∀ r∈rs,r.length=sz)
   (a7:A=some a->a.spot=none/\own a.block=.slc r p/\∀ k,k<c*sz->∃ u,w.cell? (a.add k)=some u/\w.frozen? (a.add k)=false)
   (bc:∀ i row,rs[i]?=some row->∀ j d,row[j]?=some d->w.cell? (a.add (i*sz+j))=some (vs i j))
   (b5:∀ i row,rs[i]?=some row->∀ j d,row[j]?=some d->Rp own w r (p++[i*sz+j]) m (vs i j) d) :
   Rp own w r p (m+1) (.slice A n c) (.rows sz rs)
def wG (own:Nat->Ow)(w:World)(r:Nat):List Nat->Value->List Nat->Value->Prop
 |_,v,[],u=>u=v
 |q,v,k::p,u=>∃ a n c u',v=.slice (some a) n c/\own a.block=.slc r q/\w.cell? (a.add k)=some u'/\wG own w r (q++[k]) u' p u
theorem eY {w w':World}{a:Addr}(h:w'.heap[a.block]?=w.heap[a.block]?):w'.cell? a=w.cell? a:=by
 unfold World.cell?;rw[h]
theorem jL {w w':World}{a:Addr}(h:w'.heap[a.block]?=w.heap[a.block]?):w'.frozen? a=w.frozen? a:=by
 unfold World.frozen?;rw[h]
theorem add_block (a:Addr)(k:Nat):(a.add k).block=a.block:=by unfold Addr.add;split<;>rfl
theorem add_add (a:Addr)(j k:Nat):(a.add j).add k=a.add (j+k):=by
 unfold Addr.add;by_cases hj:j=0<;>by_cases hk:k=0<;>simp_all<;>omega
theorem Rd.mono {ok ok':Nat->Prop}{w w':World}{v:Value}{d:D}(h:Rd ok w v d)
  (hf:∀ b,ok b->ok' b/\w'.heap[b]?=w.heap[b]?):Rd ok' w' v d:=by
 induction h with
 |sc h=>exact .sc h
 |hole v h1=>exact .hole v h1
 | rows A a n c sz rs vs hn hc hA dm bc b5 ih =>
  refine .rows A a n c sz rs vs hn hc hA dm (fun i r hi j d hj=>?_) (fun i r hi j d hj=>ih i r hi j d hj);obtain⟨h1,h2⟩:=bc i r hi j d hj;obtain⟨h3,h4⟩:=hf _ h1;exact⟨h3,(eY (w:=w) (w':=w') (by rw[add_block];exact h4)).trans h2⟩
theorem Rp.mono {own own':Nat->Ow}{w w':World}{r r':Nat}{q q':List Nat}{p:List Nat}{m:Nat}{v:Value}{d:D}(h:Rp own w r p m v d)
  (hz:∀ b,own b=.frz->own' b=.frz/\w'.heap[b]?=w.heap[b]?) :
  ∀ s,p=q++s->(∀ b t,own b=.slc r (q++t)->own' b=.slc r' (q'++t)/\w'.heap[b]?=w.heap[b]?)->Rp own' w' r' (q'++s) m v d:=by
 induction h with
 |sc h=>exact fun _ _ _=>.sc h
 |hole v h1=>exact fun _ _ _=>.hole v h1
 |fz h=>exact fun _ _ _=>.fz (h.mono hz)
 | sl A a n c sz rs vs hn hc hA dm a7 bc b5 ih =>
  rename_i p m;intro s hp hs;refine .sl A a n c sz rs vs hn hc hA dm (fun e=>?_) (fun i row hi j d hj=>?_) (fun i row hi j d hj=>?_)
  ·obtain⟨h1,h2,h3⟩:=a7 e
   rw[hp]at h2;obtain⟨h4,h5⟩:=hs _ _ h2;refine⟨h1,h4,fun k hk=>?_⟩;obtain⟨u,hu,hf⟩:=h3 k hk;exact⟨u,(eY (w:=w) (w':=w') (by rw[add_block];exact h5)).trans hu,(jL (w:=w) (w':=w') (by rw[add_block];exact h5)).trans hf⟩
  ·rcases hA with e|⟨e,e'⟩
   ·obtain⟨h1,h2,h3⟩:=a7 e
    rw[hp]at h2;obtain⟨h4,h5⟩:=hs _ _ h2;exact (eY (w:=w) (w':=w') (by rw[add_block];exact h5)).trans (bc i row hi j d hj)
   ·exfalso
    have:i<rs.length:=by
     rcases Pbo i rs.length with h|h
     ·exact h
     ·simp[Qbr h]at hi
    omega
  ·have:=ih i row hi j d hj (s++[i*sz+j]) (by rw[hp,Pbd]) hs
   rwa[<- Pbd]at this
theorem Rp.rd {own:Nat->Ow}{w:World}{r:Nat}{p:List Nat}{m:Nat}{v:Value}{d:D}(h:Rp own w r p m v d) :
  Rd (fun b=>own b=.frz\/∃ q,own b=.slc r q) w v d:=by
 induction h with
 |sc h=>exact .sc h
 |hole v h1=>exact .hole v h1
 |fz h=>exact h.mono fun b hb=>⟨.inl hb,rfl⟩
 | sl A a n c sz rs vs hn hc hA dm a7 bc b5 ih =>
  refine .rows A a n c sz rs vs hn hc ?_ dm (fun i row hi j d hj=>?_) ih
  ·rcases hA with e|⟨e,e'⟩
   ·exact .inr e
   ·exact .inl (by omega)
  ·refine⟨?_,bc i row hi j d hj⟩
   rcases hA with e|⟨e,e'⟩
   ·exact .inr ⟨_,(a7 e).2.1⟩
   ·exfalso
    have:i<rs.length:=by
     rcases Pbo i rs.length with h|h
     ·exact h
     ·simp[Qbr h]at hi
    omega
theorem Rp.weaken {own own':Nat->Ow}{w:World}{r:Nat}{p:List Nat}{m:Nat}{v:Value}{d:D}(h:Rp own w r p m v d)
  (hz:∀ b,own b=.frz->own' b=.frz):∀ (m':Nat),m'<=m ->
  (∀ b t,own b=.slc r (p++t)->own' b=(if t.length<m' then .slc r (p++t) else .frz))->Rp own' w r p m' v d:=by
 induction h with
 |sc h=>exact fun _ _ _=>.sc h
 |hole v h1=>exact fun _ _ _=>.hole v h1
 | fz h =>
  intro m' hm hs;obtain rfl:m'=0:=by omega
  exact .fz (h.mono fun b hb=>⟨hz b hb,rfl⟩)
 | sl A a n c sz rs vs hn hc hA dm a7 bc b5 ih =>
  rename_i p m;intro m' hm hs
  cases m' with
  | zero =>
   refine .fz (.rows A a n c sz rs vs hn hc ?_ dm (fun i row hi j d hj=>?_) (fun i row hi j d hj=>?_))
   ·rcases hA with e|⟨e,e'⟩
    ·exact .inr e
    ·exact .inl (by omega)
   ·refine⟨?_,bc i row hi j d hj⟩
    rcases hA with e|⟨e,e'⟩
    ·have:=hs a.block [] (by simpa using (a7 e).2.1)
     simpa using this
    ·exfalso
     have:i<rs.length:=by
      rcases Pbo i rs.length with h|h
      ·exact h
      ·simp[Qbr h]at hi
     omega
   ·have h1:=ih i row hi j d hj 0 (Nat.zero_le _) (fun b t hb=>by
     have:=hs b ([i*sz+j]++t) (by rw[<- Pbd];exact hb);simpa using this)
    generalize vs i j=u at h1
    cases h1 with
    |sc h=>exact .sc h
    |hole _ h1=>exact .hole _ h1
    |fz h=>exact h
  | succ m' =>
   refine .sl A a n c sz rs vs hn hc hA dm (fun e=>?_) bc (fun i row hi j d hj=>?_)
   ·obtain⟨h1,h2,h3⟩:=a7 e
    refine⟨h1,?_,h3⟩;have:=hs a.block [] (by simpa using h2);simpa using this
   ·refine ih i row hi j d hj m' (by omega) (fun b t hb=>?_)
    have:=hs b ([i*sz+j]++t) (by rw[<- Pbd];exact hb);simp only[List.length_append,List.length_singleton]at this;rw[this,<- Pbd];by_cases ht:t.length<m'
    ·rw[if_pos ht,if_pos (by omega)]
    ·rw[if_neg ht,if_neg (by omega)]
theorem Sc.one {v:Value}{d:D}(h:Sc v d):v.oneCell'=true:=by cases h<;>rfl
theorem Rd.one {ok:Nat->Prop}{w:World}{v:Value}{d:D}(h:Rd ok w v d):v.oneCell'=true:=by
 cases h with
 |sc h=>exact h.one
 |hole _ h1=>exact h1
 |rows=>rfl
theorem Rp.one {own:Nat->Ow}{w:World}{r:Nat}{p:List Nat}{m:Nat}{v:Value}{d:D}(h:Rp own w r p m v d):v.oneCell'=true:=by
 cases h with
 |sc h=>exact h.one
 |hole _ h1=>exact h1
 |fz h=>exact h.one
 |sl=>rfl
structure Gh where
 own:Nat->Ow
 hdr:Nat->Value
 bx:Nat->Addr
def kL (σ:Nat->Option aN)(r k:Nat):Prop:=∃ x m st,σ (kR r)=some (.root x m k st)/\(st=.live\/st=.frozen)
def wD (σ:Nat->Option aN)(r k m:Nat):Prop:=∃ x,σ (kR r)=some (.root x m k .live)
def iK (σ:Nat->Option aN)(r k:Nat):Prop:=∃ x m aE st,σ (kR r)=some (.root x m aE st)/\(st=.live\/st=.frozen->k<=aE)
def allow (G:Gh)(deps:List (Nat×Nat))(b:Nat):Prop:=G.own b=.frz\/∃ r k p,(r,k)∈deps/\G.own b=.slc r p
def jT (ρ:List D)(x:aI):Nat:=match x.val ρ with
 |.int _ n=>n.toNat
 |_=>0
def aZ (ρ:List D)(p:List (aI×Nat×Nat)):List Nat:=p.map fun x=>jT ρ x.1*x.2.1+x.2.2
def Abo (h v:Value)(sz L:Nat):Prop:=∃ A n c,h=.slice A n c/\L<=n/\v=.slice (if c=L then A else A.map (·.add (L*sz))) (n-L) (c-L)
def Aaq (σ:Nat->Option aN)(ρ:List D)(G:Gh)(w:World)(deps:List (Nat×Nat))(v:Value)(d:D):Pth->Prop
 |.no=>True
 |.view=>∀ r k m,deps=[(r,k)]->wD σ r k m->Rp G.own w r [] m v d
 |.suf sz lo=>∀ r k m,deps=[(r,k)]->wD σ r k m->Abo (G.hdr r) v sz (jT ρ lo)
 |.path p=>∀ r k m,deps=[(r,k)]->wD σ r k m->p.length<=m/\Rp G.own w r (aZ ρ p) (m-p.length) v d/\wG G.own w r [] (G.hdr r) (aZ ρ p) v
mutual
def aB (σ:Nat->Option aN)(ρ:List D)(G:Gh)(w:World):aM->Value->Prop
 |.dead,v=>v.oneCell'=true
 |.sc x,v=>Sc v (x.val ρ)
 |.su g x,v=>(Sc v (x.val ρ)\/(v=undef/\x.val ρ=.undef))/\(gOn ρ (some g)=true->Sc v (x.val ρ))
 |.ex r,v=>v=G.hdr r/\(σ (kR r)).isSome/\v.oneCell'=true
 | .sn deps p nie x, v => (v.oneCell' = true /\ ∀ z ∈ deps, iK σ z.1 z.2) /\ ((∀ z ∈ deps, kL σ z.1 z.2) ->
   Rd (allow G deps) w v (x.val ρ)/\(nie=true->∀ z,x.val ρ=.rows z []->v=.slice none 0 0)/\Aaq σ ρ G w deps v (x.val ρ) p)
 |.px b off,v=>v=.pointer (some ((G.bx b).add off))/\(σ (kB b)).isSome
 |.pe l sz i off,v=>∃ a n c k iv,aB σ ρ G w l (.slice (some a) n c)/\i.val ρ=.int k iv/\0<=iv/\iv.toNat<n/\v=.pointer (some (a.add (iv.toNat*sz+off)))
 | .rp deps sz x, v => (v.oneCell' = true /\ ∀ z ∈ deps, iK σ z.1 z.2) /\ ((∀ z ∈ deps, kL σ z.1 z.2) ->
   (v=.pointer none/\∃ z,x.val ρ=.rows z []) \/
   ∃ a row,v=.pointer (some a)/\x.val ρ=.rows row.length [row]/\Rd (allow G deps) w (.slice (some a) 1 1) (.rows row.length [row]))
 |.pn,v=>v=.pointer none
 |.clo f eN,v=>∃ vs,v=.func (.func f) #[] vs.toArray/\aG σ ρ G w eN vs
def aG (σ:Nat->Option aN)(ρ:List D)(G:Gh)(w:World):List aM->List Value->Prop
 |[],vs=>vs=[]
 |l::ls,vs=>∃ u us,vs=u::us/\aB σ ρ G w l u/\aG σ ρ G w ls us
end
def gY (σ:Nat->Option aN)(ρ:List D)(G:Gh)(w:World):List (Bool×List aM)->List Value->Prop
 |[],us=>us=[]
 |(a,ls)::r,us=>∃ u cD vs,us=u::cD/\aG σ ρ G w ls vs/\(if a=true then u=.agg vs.toArray else vs=[u])/\gY σ ρ G w r cD
def bS (σ:Nat->Option aN)(ρ:List D)(G:Gh)(w:World):SV->Value->Prop
 |.dead,_=>True
 |.one l,v=>aB σ ρ G w l v
 |.agg ls,v=>∃ vs,v=.agg vs.toArray/\aG σ ρ G w ls vs
 |.tup ts,v=>∃ us,v=.tuple us.toArray/\gY σ ρ G w ts us
def yA (n:Nat)(a:Act)(gh:Nat->Value)(t:Nat):Value:=if t<n then a.tmps.getD t undef else gh (t-n)
def bK (σ:Nat->Option aN)(ρ:List D)(G:Gh)(w:World)(r:Nat)(x:aI)(m:Nat):RSt->Prop
 |.live=>Rp G.own w r [] m (G.hdr r) (x.val ρ)
 |.frozen=>Rd (fun b=>G.own b=.frz) w (G.hdr r) (x.val ρ)/\∀ b p,G.own b≠.slc r p
 |.gone=>True
 |.fwd r'=>G.hdr r=G.hdr r'/\(σ (kR r')).isSome
def Ha9 (σ:Nat->Option aN)(ρ:List D)(G:Gh)(w:World)(b:Nat)(ro:Bool)(ls:List aM):Prop :=
 (G.bx b).spot=none/\G.own (G.bx b).block=(if ro=true then .oth else .box b) /\
 ∀ j l,ls[j]?=some l->∃ v,w.cell? ((G.bx b).add j)=some v/\w.frozen? ((G.bx b).add j)=false/\aB σ ρ G w l v
structure bC where
 w0:World
 own0:Nat->Ow
 gh:Nat->Value
 rng:Nat->Nat×Nat
structure kW (F:bC) (G:Gh) (w:World):Prop where
 os:w.os=F.w0.os
 tape:w.tape=F.w0.tape
 output:w.output=F.w0.output
 size:F.w0.heap.size<=w.heap.size
 keep:∀ b,b<F.w0.heap.size->F.own0 b=.frz\/F.own0 b=.oth->w.heap[b]?=F.w0.heap[b]?/\G.own b=F.own0 b
 boxes:∀ b j,b<F.w0.heap.size->F.own0 b=.box j->G.own b=.box j/\∃ c0 c1 e fr,F.w0.heap[b]?=some (.cells c0 e fr)/\w.heap[b]?=some (.cells c1 e fr)/\c1.size=c0.size /\
  ∀ k,k<(F.rng j).1\/(F.rng j).2<=k->c1[k]?=c0[k]?
 fresh:∀ b,w.heap.size<=b->G.own b=.frz
def Waq (n:Nat)(gh:Nat->Value)(σ:Nat->Option aN)(ρ:List D)(G:Gh)(a:Act)(w:World):Nat->aN->Prop
 |k,.slot g v=>∃ t,k=kT t/\(gOn ρ g=true->bS σ ρ G w v (yA n a gh t))
 |k,.box ro ls=>∃ b,k=kB b/\Ha9 σ ρ G w b ro ls
 |k,.root x m aE st=>∃ r,k=kR r/\(σ (kR r)).isSome/\bK σ ρ G w r x m st
structure R (n:Nat) (F:bC) (σ:Nat->Option aN) (ρ:List D) (a:Act) (w:World) (G:Gh):Prop where
 tmps:a.tmps.size=n
 defers:a.defers=[]
 cont:∀ k c,σ k=some c->Waq n F.gh σ ρ G a w k c
 frame:kW F G w
 rng:∀ b ls,σ (kB b)=some (.box false ls)->(G.bx b).block<F.w0.heap.size->F.own0 (G.bx b).block=.box b->F.rng b=((G.bx b).off,(G.bx b).off+ls.length)
theorem Eb5 {a b:Nat}(h:kT a=kT b):a=b:=by unfold kT at h;omega
theorem zT {a b:Nat}(h:kB a=kB b):a=b:=by unfold kB at h;omega
theorem dY {a b:Nat}(h:kR a=kR b):a=b:=by unfold kR at h;omega
theorem kF {a b:Nat}:kT a≠kB b:=by unfold kT kB;omega
theorem iA {a b:Nat}:kT a≠kR b:=by unfold kT kR;omega
theorem eD {a b:Nat}:kB a≠kR b:=by unfold kB kR;omega
section
variable {n:Nat} {F:bC} {σ:Nat->Option aN} {ρ:List D} {a:Act} {w:World} {G:Gh}
theorem R.slot (h:R n F σ ρ a w G){t:Nat}{g:Option (aI×Bool)}{v:SV}(hk:σ (kT t)=some (.slot g v))(hg:gOn ρ g=true):bS σ ρ G w v (yA n a F.gh t):=by
 obtain⟨t',e,h'⟩:=h.cont _ _ hk;obtain rfl:=Eb5 e;exact h' hg
theorem R.box (h:R n F σ ρ a w G){b:Nat}{ro:Bool}{ls:List aM}(hk:σ (kB b)=some (.box ro ls)):Ha9 σ ρ G w b ro ls:=by
 obtain⟨t',e,h'⟩:=h.cont _ _ hk;obtain rfl:=zT e;exact h'
theorem R.root (h:R n F σ ρ a w G){r:Nat}{x:aI}{m aE:Nat}{st:RSt}(hk:σ (kR r)=some (.root x m aE st)):bK σ ρ G w r x m st:=by
 obtain⟨t',e,_,h'⟩:=h.cont _ _ hk;obtain rfl:=dY e;exact h'
end
structure Fr (σ:Nat->Option aN) (G:Gh) (w:World) (dc:Nat->Option aN) (G':Gh) (w':World):Prop where
 frz:∀ b,G.own b=.frz->b<w.heap.size->G'.own b=.frz/\w'.heap[b]?=w.heap[b]?
 valid:∀ r k,iK σ r k->kL dc r k->kL σ r k
 known:∀ r k,iK σ r k->iK dc r k
 slc:∀ r k b p,kL σ r k->kL dc r k->G.own b=.slc r p->(G'.own b=.slc r p\/G'.own b=.frz)/\w'.heap[b]?=w.heap[b]?
 live:∀ r k m,iK σ r k->wD dc r k m->wD σ r k m/\∀ b p,G.own b=.slc r p->G'.own b=.slc r p
 hdr:∀ r,(σ (kR r)).isSome->G'.hdr r=G.hdr r
 bx:∀ b,(σ (kB b)).isSome->G'.bx b=G.bx b
 keep:∀ k,(σ k).isSome->(dc k).isSome
 froz:∀ r x m k,σ (kR r)=some (.root x m k .frozen)->∀ b p,G'.own b=.slc r p->G.own b=.slc r p
theorem iK.some {σ:Nat->Option aN}{r k:Nat}(h:iK σ r k):(σ (kR r)).isSome:=by
 obtain⟨x,m,aE,st,e,_⟩:=h;rw[e];rfl
theorem kL.known {σ:Nat->Option aN}{r k:Nat}(h:kL σ r k):iK σ r k:=by
 obtain⟨x,m,st,e,_⟩:=h;exact⟨x,m,k,st,e,fun _=>Nat.le_refl _⟩
theorem iK.same {σ dc:Nat->Option aN}(h:∀ r,dc (kR r)=σ (kR r)){r k:Nat}(hk:iK σ r k):iK dc r k:=by
 obtain⟨x,m,aE,st,e,h1⟩:=hk;exact⟨x,m,aE,st,by rw[h];exact e,h1⟩
theorem wD.valid {σ:Nat->Option aN}{r k m:Nat}(h:wD σ r k m):kL σ r k:=by
 obtain⟨x,e⟩:=h;exact⟨x,m,.live,e,.inl rfl⟩
theorem block_lt {w:World}{a:Addr}{v:Value}(h:w.cell? a=some v):a.block<w.heap.size:=by
 rcases Pbo a.block w.heap.size with h1|h1
 ·exact h1
 ·unfold World.cell? at h
  rw[Array.getElem?_eq_none h1]at h;cases h
theorem Jav {w:World}{a:Addr}{v:Value}(h:w.cell? a=some v):a.block<w.heap.size:=block_lt h
theorem Rd.mono' {ok ok':Nat->Prop}{w w':World}{v:Value}{d:D}(h:Rd ok w v d)
  (hf:∀ b,ok b->b<w.heap.size->ok' b/\w'.heap[b]?=w.heap[b]?):Rd ok' w' v d:=by
 induction h with
 |sc h=>exact .sc h
 |hole v h1=>exact .hole v h1
 | rows A a n c sz rs vs hn hc hA dm bc b5 ih =>
  refine .rows A a n c sz rs vs hn hc hA dm (fun i r hi j d hj=>?_) (fun i r hi j d hj=>ih i r hi j d hj);obtain⟨h1,h2⟩:=bc i r hi j d hj;have aq:=Jav h2;rw[add_block]at aq;obtain⟨h3,h4⟩:=hf _ h1 aq;exact⟨h3,(eY (w:=w) (w':=w') (by rw[add_block];exact h4)).trans h2⟩
theorem Rp.mono' {own own':Nat->Ow}{w w':World}{r r':Nat}{q q':List Nat}{p:List Nat}{m:Nat}{v:Value}{d:D}(h:Rp own w r p m v d)
  (hz:∀ b,own b=.frz->b<w.heap.size->own' b=.frz/\w'.heap[b]?=w.heap[b]?) :
  ∀ s,p=q++s->(∀ b t,own b=.slc r (q++t)->own' b=.slc r' (q'++t)/\w'.heap[b]?=w.heap[b]?)->Rp own' w' r' (q'++s) m v d:=by
 induction h with
 |sc h=>exact fun _ _ _=>.sc h
 |hole v h1=>exact fun _ _ _=>.hole v h1
 |fz h=>exact fun _ _ _=>.fz (h.mono' hz)
 | sl A a n c sz rs vs hn hc hA dm a7 bc b5 ih =>
  rename_i p m;intro s hp hs;refine .sl A a n c sz rs vs hn hc hA dm (fun e=>?_) (fun i row hi j d hj=>?_) (fun i row hi j d hj=>?_)
  ·obtain⟨h1,h2,h3⟩:=a7 e
   rw[hp]at h2;obtain⟨h4,h5⟩:=hs _ _ h2;refine⟨h1,h4,fun k hk=>?_⟩;obtain⟨u,hu,hf⟩:=h3 k hk;exact⟨u,(eY (w:=w) (w':=w') (by rw[add_block];exact h5)).trans hu,(jL (w:=w) (w':=w') (by rw[add_block];exact h5)).trans hf⟩
  ·rcases hA with e|⟨e,e'⟩
   ·obtain⟨h1,h2,h3⟩:=a7 e
    rw[hp]at h2;obtain⟨h4,h5⟩:=hs _ _ h2;exact (eY (w:=w) (w':=w') (by rw[add_block];exact h5)).trans (bc i row hi j d hj)
   ·exfalso
    have:i<rs.length:=by
     rcases Pbo i rs.length with h|h
     ·exact h
     ·simp[Qbr h]at hi
    omega
  ·have:=ih i row hi j d hj (s++[i*sz+j]) (by rw[hp,Pbd]) hs
   rwa[<- Pbd]at this
theorem wG.mono {own own':Nat->Ow}{w w':World}{r r':Nat}:∀ (p q q':List Nat) (v u:Value),
  (∀ b t,own b=.slc r (q++t)->own' b=.slc r' (q'++t)/\w'.heap[b]?=w.heap[b]?)->wG own w r q v p u->wG own' w' r' q' v p u
 |[],_,_,_,_,_,h=>h
 | k :: p, q, q', v, u, hs, h => by
  obtain⟨a,n,c,u',rfl,ho,hc,hn⟩:=h;obtain⟨h1,h2⟩:=hs a.block [] (by simpa using ho);refine⟨a,n,c,u',rfl,by simpa using h1,(eY (w:=w) (w':=w') (by rw[add_block];exact h2)).trans hc,?_⟩
  exact wG.mono p (q++[k]) (q'++[k]) u' u (fun b t hb=>by
   have:=hs b (k::t) (by simpa using hb);simpa using this) hn
section
variable {σ dc:Nat->Option aN} {ρ:List D} {G G':Gh} {w w':World}
theorem Aaq.mono (h:Fr σ G w dc G' w'){deps:List (Nat×Nat)}(hex:∀ z∈deps,iK σ z.1 z.2){v:Value}{d:D}{p:Pth}(hp:Aaq σ ρ G w deps v d p):Aaq dc ρ G' w' deps v d p:=by
 cases p with
 |no=>trivial
 | view =>
  intro r k m e hl;obtain⟨eW,ho⟩:=h.live r k m (hex (r,k) (by simp[e])) hl;have:=(hp r k m e eW).mono' (q:=[]) (q':=[]) h.frz [] rfl (fun b t hb=>⟨ho b t hb,(h.slc r k b _ eW.valid hl.valid hb).2⟩);simpa using this
 | suf sz lo =>
  intro r k m e hl;obtain⟨eW,ho⟩:=h.live r k m (hex (r,k) (by simp[e])) hl;rw[h.hdr r (hex (r,k) (by simp[e])).some];exact hp r k m e eW
 | path p =>
  intro r k m e hl;obtain⟨eW,ho⟩:=h.live r k m (hex (r,k) (by simp[e])) hl;obtain⟨h1,h2,h3⟩:=hp r k m e eW;have hs:∀ b t,G.own b=.slc r ([]++t)->G'.own b=.slc r ([]++t)/\w'.heap[b]?=w.heap[b]?:=fun b t hb=>⟨ho b t hb,(h.slc r k b _ eW.valid hl.valid hb).2⟩
  refine⟨h1,?_,?_⟩
  ·have:=h2.mono' (q:=[]) (q':=[]) h.frz _ rfl hs
   rw[List.nil_append]at this;exact this
  ·rw[h.hdr r (hex (r,k) (by simp[e])).some]
   exact h3.mono _ _ _ _ _ hs
theorem allow.mono (h:Fr σ G w dc G' w'){deps:List (Nat×Nat)}(hex:∀ z∈deps,iK σ z.1 z.2)(hv:∀ z∈deps,kL dc z.1 z.2){b:Nat}(hb:allow G deps b)(aq:b<w.heap.size) :
  allow G' deps b/\w'.heap[b]?=w.heap[b]?:=by
 rcases hb with hb|⟨r,k,p,hm,hb⟩
 ·exact⟨.inl (h.frz b hb aq).1,(h.frz b hb aq).2⟩
 ·have wv:=hv (r,k) hm
  have:=h.slc r k b p (h.valid r k (hex (r,k) hm) wv) wv hb;exact⟨this.1.elim (fun e=>.inr ⟨r,k,p,hm,e⟩) .inl,this.2⟩
mutual
theorem aB.mono (h:Fr σ G w dc G' w'):∀ (l:aM) (v:Value),aB σ ρ G w l v->aB dc ρ G' w' l v
 |.dead,_,hl=>by simpa[aB] using hl
 |.sc x,v,hl=>by simpa[aB] using hl
 |.su g x,v,hl=>by simpa[aB] using hl
 | .ex r, v, hl => by
  simp only[aB]at hl ⊢;exact⟨by rw[h.hdr r hl.2.1];exact hl.1,h.keep _ hl.2.1,hl.2.2⟩
 | .sn deps p nie x, v, hl => by
  simp only[aB]at hl ⊢;refine⟨⟨hl.1.1,fun z hz=>h.known _ _ (hl.1.2 z hz)⟩,fun hv=>?_⟩;obtain⟨h1,h2,h3⟩:=hl.2 (fun z hz=>h.valid _ _ (hl.1.2 z hz) (hv z hz));exact⟨h1.mono' fun b hb aq=>allow.mono h hl.1.2 hv hb aq,h2,h3.mono h hl.1.2⟩
 | .px b off, v, hl => by
  simp only[aB]at hl ⊢;exact⟨by rw[h.bx b hl.2];exact hl.1,h.keep _ hl.2⟩
 | .pe l sz i off, v, hl => by
  simp only[aB]at hl ⊢;obtain⟨a,n,c,k,iv,h1,h2⟩:=hl;exact⟨a,n,c,k,iv,aB.mono h l _ h1,h2⟩
 | .rp deps sz x, v, hl => by
  simp only[aB]at hl ⊢;refine⟨⟨hl.1.1,fun z hz=>h.known _ _ (hl.1.2 z hz)⟩,fun hv=>?_⟩
  rcases hl.2 (fun z hz=>h.valid _ _ (hl.1.2 z hz) (hv z hz)) with h1|⟨a,row,h1,h2,h3⟩
  ·exact .inl h1
  ·exact .inr ⟨a,row,h1,h2,h3.mono' fun b hb aq=>allow.mono h hl.1.2 hv hb aq⟩
 |.pn,v,hl=>by simpa[aB] using hl
 | .clo f eN, v, hl => by
  simp only[aB]at hl ⊢;obtain⟨vs,h1,h2⟩:=hl;exact⟨vs,h1,aG.mono h eN vs h2⟩
theorem aG.mono (h:Fr σ G w dc G' w'):∀ (ls:List aM) (vs:List Value),aG σ ρ G w ls vs->aG dc ρ G' w' ls vs
 |[],vs,hl=>by simpa[aG] using hl
 | l :: ls, vs, hl => by
  simp only[aG]at hl ⊢;obtain⟨u,us,e,h1,h2⟩:=hl;exact⟨u,us,e,aB.mono h l u h1,aG.mono h ls us h2⟩
end
theorem gY.mono (h:Fr σ G w dc G' w'):∀ (ts:List (Bool×List aM)) (us:List Value),gY σ ρ G w ts us->gY dc ρ G' w' ts us
 |[],_,ht=>ht
 | (a, ls) :: r, us, ht => by
  obtain⟨u,cD,vs,e,h1,h2,h3⟩:=ht;exact⟨u,cD,vs,e,aG.mono h ls vs h1,h2,gY.mono h r cD h3⟩
theorem bS.mono (h:Fr σ G w dc G' w'){v:SV}{u:Value}(hv:bS σ ρ G w v u):bS dc ρ G' w' v u:=by
 cases v with
 |dead=>trivial
 |one l=>exact aB.mono h l u hv
 |agg ls=>obtain⟨vs,e,h1⟩:=hv;exact⟨vs,e,aG.mono h ls vs h1⟩
 |tup ts=>obtain⟨us,e,h1⟩:=hv;exact⟨us,e,gY.mono h ts us h1⟩
end
def Paq (σ:Nat->Option aN)(k:Nat)(c:aN):Nat->Option aN:=fun j=>if j=k then some c else σ j
def upds (σ:Nat->Option aN):List (Nat×aN)->Nat->Option aN
 |[]=>σ
 |(k,c)::r=>upds (Paq σ k c) r
theorem nI:∀ (u:List (Nat×aN)) (σ:Nat->Option aN) (k:Nat) (c:aN),upds σ u k=some c->(k,c)∈u\/((∀ c',(k,c')∉u)/\σ k=some c)
 |[],σ,k,c,h=>.inr ⟨by simp,h⟩
 | (k', c') :: r, σ, k, c, h => by
  rcases nI r (Paq σ k' c') k c h with h1|⟨h1,h2⟩
  ·exact .inl (Pbb _ h1)
  ·unfold Paq at h2
   split at h2
   ·rename_i e
    obtain rfl:=Option.some.inj h2;exact .inl (by rw[e];exact Pbf)
   ·rename_i e
    refine .inr ⟨fun c'' hc=>?_,h2⟩
    rcases Ob8.1 hc with h3|h3
    ·exact e (Qb9 h3).1
    ·exact h1 _ h3
theorem dW:∀ (u:List (Nat×aN)) (σ:Nat->Option aN) (k:Nat),(∀ c,(k,c)∉u)->upds σ u k=σ k
 |[],_,_,_=>rfl
 | (k', c') :: r, σ, k, h => by
  rw[upds,dW r _ k fun c hc=>h c (Pbb _ hc)];unfold Paq;rw[if_neg];intro e;exact h c' (by rw[e];exact Pbf)
theorem dL:∀ (u:List (Nat×aN)) (σ:Nat->Option aN) (k:Nat),(σ k).isSome\/(∃ c,(k,c)∈u)->(upds σ u k).isSome
 | [], σ, k, h => by
  rcases h with h|⟨c,hc⟩
  ·exact h
  ·simp at hc
 | (k', c') :: r, σ, k, h => by
  refine dL r _ k ?_;unfold Paq
  rcases h with h|⟨c,hc⟩
  ·exact .inl (by split<;>simp_all)
  ·rcases Ob8.1 hc with h1|h1
   ·exact .inl (by rw[if_pos (Qb9 h1).1];rfl)
   ·exact .inr ⟨c,h1⟩
section
variable {n:Nat} {F:bC} {σ:Nat->Option aN} {ρ:List D} {a a':Act} {w w':World} {G G':Gh}
theorem R.upd (h:R n F σ ρ a w G)(u:List (Nat×aN))(dq:Fr σ G w (upds σ u) G' w')(dm:a'.tmps.size=n)(hd:a'.defers=[])
  (hF:kW F G' w')
  (htm:∀ t,(∀ c,(kT t,c)∉u)->yA n a' F.gh t=yA n a F.gh t)
  (fv:∀ b ro ls,σ (kB b)=some (.box ro ls)->(∀ c,(kB b,c)∉u)->G'.own (G.bx b).block=G.own (G.bx b).block/\w'.heap[(G.bx b).block]?=w.heap[(G.bx b).block]?)
  (qk:∀ b ls,(kB b,.box false ls)∈u->(G'.bx b).block<F.w0.heap.size->F.own0 (G'.bx b).block=.box b->F.rng b=((G'.bx b).off,(G'.bx b).off+ls.length))
  (ga:∀ k c,(k,c)∈u->upds σ u k=some c->Waq n F.gh (upds σ u) ρ G' a' w' k c):R n F (upds σ u) ρ a' w' G':=by
 refine⟨dm,hd,fun k c hk=>?_,hF,fun b ls hk hb ho=>?_⟩
 ·rcases nI u σ k c hk with h1|⟨h1,h2⟩
  ·exact ga k c h1 hk
  ·cases c with
   | slot g v =>
    obtain⟨t,rfl,hv⟩:=h.cont k _ h2;refine⟨t,rfl,fun hg=>?_⟩;rw[htm t h1];exact (hv hg).mono dq
   | box ro ls =>
    obtain⟨b,rfl,h3,h4,h5⟩:=h.cont k _ h2;obtain⟨h6,h7⟩:=fv b ro ls h2 h1;have e:G'.bx b=G.bx b:=dq.bx b (by rw[h2];rfl);refine⟨b,rfl,by rw[e];exact h3,by rw[e,h6];exact h4,fun j l hj=>?_⟩;obtain⟨v,h8,h9,cd⟩:=h5 j l hj;rw[e];exact⟨v,(eY (w:=w) (w':=w') (by rw[add_block];exact h7)).trans h8,(jL (w:=w) (w':=w') (by rw[add_block];exact h7)).trans h9,aB.mono dq l v cd⟩
   | root x m aE st =>
    obtain⟨r,rfl,h0,h3⟩:=h.cont k _ h2;refine⟨r,rfl,dq.keep _ h0,?_⟩;have e:G'.hdr r=G.hdr r:=dq.hdr r h0
    cases st with
    | live =>
     have eW:wD (upds σ u) r aE m:=⟨x,hk⟩;obtain⟨hl,ho⟩:=dq.live r aE m ⟨x,m,aE,.live,h2,fun _=>Nat.le_refl _⟩ eW;have:=Rp.mono' (q:=[]) (q':=[]) h3 dq.frz [] rfl (fun b t hb=>⟨ho b t hb,(dq.slc r aE b _ hl.valid eW.valid hb).2⟩);simp only[bK];rw[e];simpa using this
    | frozen =>
     simp only[bK];rw[e];exact⟨h3.1.mono' dq.frz,fun b p hb=>h3.2 b p (dq.froz r x m aE h2 b p hb)⟩
    |gone=>trivial
    | fwd r' =>
     obtain⟨h4,h5⟩:=h3;exact⟨by rw[e,dq.hdr r' h5];exact h4,dq.keep _ h5⟩
 ·rcases nI u σ _ _ hk with h1|⟨h1,h2⟩
  ·exact qk b ls h1 hb ho
  ·have e:G'.bx b=G.bx b:=dq.bx b (by rw[h2];rfl)
   rw[e]at hb ho ⊢;exact h.rng b ls h2 hb ho
theorem zA (a:Act)(d:Option Tmp)(v:Value):(a.put d v).tmps.size=a.tmps.size:=by
 cases d<;>simp[Act.put]
theorem put_defers (a:Act)(d:Option Tmp)(v:Value):(a.put d v).defers=a.defers:=by
 cases d<;>simp[Act.put]
theorem Dax (n:Nat)(a:Act)(G:Nat->Value)(d t:Nat)(v:Value)(h:d≠t):yA n (a.put (some d) v) G t=yA n a G t:=by
 unfold yA;split
 ·simp[Act.put,Pb3,Array.getElem?_setIfInBounds,h]
 ·rfl
theorem mI (n:Nat)(a:Act)(G:Nat->Value)(d:Nat)(v:Value)(h:d<n)(hs:a.tmps.size=n):yA n (a.put (some d) v) G d=v:=by
 unfold yA;rw[if_pos h];simp[Act.put,Pb3,hs,h]
theorem Fr.same (σ:Nat->Option aN)(G:Gh)(w:World)(u:List (Nat×aN))(hu:∀ k c,(k,c)∈u->∃ t,k=kT t):Fr σ G w (upds σ u) G w:=by
 have hr:∀ r,upds σ u (kR r)=σ (kR r):=fun r=>dW _ _ _ fun c hc=>by obtain⟨t,e⟩:=hu _ _ hc;exact iA e.symm
 refine⟨fun b h _=>⟨h,rfl⟩,fun r k _ h=>?_,fun r k h=>?_,fun r k b p _ _ h=>⟨.inl h,rfl⟩,fun r k m _ h=>⟨?_,fun b p h=>h⟩,fun _ _=>rfl,fun _ _=>rfl,fun k h=>dL _ _ _ (.inl h),fun _ _ _ _ _ _ _ h=>h⟩
 ·obtain⟨x,m,st,e,h⟩:=h
  exact⟨x,m,st,by rw[<- hr];exact e,h⟩
 ·obtain⟨x,m,aE,st,e,h⟩:=h
  exact⟨x,m,aE,st,by rw[hr];exact e,h⟩
 ·obtain⟨x,e⟩:=h
  exact⟨x,by rw[<- hr];exact e⟩
def dF (o:Oper)(g:Option (aI×Bool))(v:SV):List (Nat×aN):=match o.dst with|some d=>[(kT d,.slot g v)]|none=>[]
theorem R.pure (h:R n F σ ρ a w G)(o:Oper)(hd:∀ d,o.dst=some d->d<n)(g:Option (aI×Bool))(sv:SV)(v:Value)
  (hv:gOn ρ g=true->bS σ ρ G w sv v):R n F (upds σ (dF o g sv)) ρ (a.put o.dst v) w G:=by
 have dq:Fr σ G w (upds σ (dF o g sv)) G w:=Fr.same _ _ _ _ fun k c hk=>by
  unfold dF at hk;split at hk
  ·rename_i d e
   simp only[Ob3,Pbl]at hk;exact⟨d,hk.1⟩
  ·simp at hk
 refine h.upd _ dq (by rw[zA];exact h.tmps) (by rw[put_defers];exact h.defers) h.frame (fun t ht=>?_) (fun _ _ _ _ _=>⟨rfl,rfl⟩) (fun b ls hb=>?_) (fun k c hk jh=>?_)
 ·unfold dF at ht
  cases e:o.dst with
  |none=>rfl
  | some d =>
   rw[e]at ht;exact Dax _ _ _ _ _ _ fun e'=>ht _ (by rw[e'];exact Ob3.2 rfl)
 ·unfold dF at hb
  split at hb
  ·simp only[Ob3,Pbl]at hb
   exact absurd hb.1.symm kF
  ·simp at hb
 ·have xT:=hk
  unfold dF at hk
  cases e:o.dst with
  |none=>rw[e]at hk;simp at hk
  | some d =>
   rw[e]at hk;simp only[Ob3,Pbl]at hk;obtain⟨rfl,rfl⟩:=hk;refine⟨d,rfl,fun hg=>?_⟩;rw[mI _ _ _ _ _ (hd d e) h.tmps];exact (hv hg).mono dq
end
end Go.Proofs.YtcbkmmhkccnamaaGreat.Rf
