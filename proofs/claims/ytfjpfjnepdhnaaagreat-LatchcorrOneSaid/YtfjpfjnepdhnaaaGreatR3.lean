/- . -/
import Derived.Calls
import Derived.KernelRfl
import Derived.Orders
import Derived.Laws.World
import Derived.Laws.Cells
import Derived.Laws.AppendOwn
import Derived.Laws.Entries
import Derived.Laws.StructEq
import Derived.Laws.Slices
import Derived.Laws.MakeOwn
import Derived.Laws.CopyRow
import Derived.ChangeArms
import Derived.DataReads
import Derived.SizedLaws
import Derived.Below
import Derived.Carry
import Derived.Test.YtfjpfjnepdhnaaaGreatR2
namespace Go.Proofs.YtfjpfjnepdhnaaaGreat.R
open Go
set_option linter.unusedVariables false
set_option linter.unusedSimpArgs false
section
section
variable {R:Type} {E:Env} {C:bC}
theorem Gl(dst:Option Tmp)(st:St)(t:TypeId)(a x:AV)(k:St->Option R):xB E dst st t a x k=(xB E dst st t a x some).bind k:=by unfold xB;split;split;exact rF _ (some _) k;rfl;split;split;exact rF _ (some _) k;rfl;rfl;rfl
theorem Ma(dst:Option Tmp)(st:St)(t:TypeId)(key j off:Nat)(x:Operand)(k:St->Option R):zQ E dst st t key j off x k=(zQ E dst st t key j off x some).bind k:=by unfold zQ;dsimp only;split;rw[zM,zM (R:=St),cX];congr 1;funext v;rw[cX];congr 1;funext y;split<;>rfl;rfl
theorem EA(dst:Option Tmp)(st:St)(ts:Array TypeId)(key:Nat)(cut:Option Nat)(y:AV)(k:St->Option R):uL E dst st ts key cut y k=(uL E dst st ts key cut y some).bind k:=by
 unfold uL;split
 .rename_i t t' _;cases Nat.beq t t' with
  |false=>rfl
  |true=>simp only[pD];split;split;rw[ny,ny (R:=St),cX];congr 1;funext ys;cases app _ ys<;>rfl;rfl;rfl
 rfl
theorem wR(ob:cW)(ρ:Operand->AV)(o:Oper)(g:AV->St)(k:St->Option R):(ec E C ob ρ o fun v=>k (g v))=(ec E C ob ρ o fun v=>some (g v)).bind k:=by rw[wU,wU (R:=St),cX];rfl
theorem Mz{R:Type}(ob:cW)(τ:Ty)(v:AV)(k:List τ.den->cW->Option R):(sV ob (.own τ) [v] fun x _ o=>k x o)=(sV ob (.own τ) [v] fun x _ o=>some (x,o)).bind fun p=>k p.1 p.2:=by unfold sV;split;rfl;split;split;rename_i h;subst h;rfl;rfl;rfl;split;split;rename_i h;subst h;rfl;rfl;rfl;rfl
theorem DT:∀(s:Sh) (ob:cW) (cs:List AV) {R:Type} (k:s.den->List AV->cW->Option R),sV ob s cs k=(sV ob s cs fun x r o=>some (x,r,o)).bind fun p=>k p.1 p.2.1 p.2.2
 |.d τ,ob,cs,R,k=>by simp only[sV];rw[oU τ cs,oU τ cs (fun v r=>some (v,r,sV.frz ob τ cs)),cX];rfl
 |.own τ,ob,[],R,k=>by simp only[sV];rfl
 |.own τ,ob,c::r,R,k=>by simp only[sV];split;rfl;split;split;rename_i h;subst h;rfl;rfl;rfl;split;split;rename_i h;subst h;rfl;rfl;rfl;rfl
 |.agg a b,ob,cs,R,k=>by simp only[sV];rw[DT a ob cs,DT a ob cs (fun x cs ob=>sV ob b cs fun y cs ob=>some ((x,y),cs,ob)),cX];congr 1;funext p;rw[DT b p.2.2 p.2.1 (fun y cs ob=>k (p.1,y) cs ob),DT b p.2.2 p.2.1 (fun y cs ob=>some ((p.1,y),cs,ob)),cX];rfl
theorem OZ(ob:cW)(s:Sh)(v:AV){R:Type}(k:s.den->cW->Option R):q9.io1 ob s v k=(q9.io1 ob s v fun x o=>some (x,o)).bind fun p=>k p.1 p.2:=by
 have box:∀{key:Nat},(match al ob key with
   |some (.box cs)=>sV (fW ob key) s cs fun x r ob=>match r with
    |[]=>k x ob
    |_=>none
   |_=>none)=((match al ob key with
   |some (.box cs)=>sV (fW ob key) s cs fun x r ob=>match r with
    |[]=>some (x,ob)
    |_=>none
   |_=>none):Option (s.den×cW)).bind fun p=>k p.1 p.2:=by
  intro key;split;rename_i cs _;rw[DT s (fW ob key) cs (fun x r ob=>match r with|[]=>k x ob|_=>none),DT s (fW ob key) cs (fun x r ob=>match r with|[]=>some (x,ob)|_=>none),cX];congr 1;funext p;obtain⟨x,r,o⟩:=p;cases r<;>rfl;rfl
 cases s with
 |own τ=>
  cases v with
  |ow key=>simp only[q9.io1];split;split;rename_i h;subst h;rfl;rfl;rfl
  |_=>rfl
 |d τ=>
  cases v with
  |ptr key off=>
   cases off with
   |zero=>exact box
   |succ n=>rfl
  |_=>rfl
 |agg a b=>
  cases v with
  |ptr key off=>
   cases off with
   |zero=>exact box
   |succ n=>rfl
  |_=>rfl
theorem mc:∀(ms:List Mode) (vs:List AV) (ob:cW) {R:Type} (k:List (Option AV)->cW->Option R),jS ob ms vs k=(jS ob ms vs fun a b=>some (a,b)).bind fun p=>k p.1 p.2
 |[],[],ob,R,k=>rfl
 |[],_::_,ob,R,k=>rfl
 |.ro::ms,[],ob,R,k=>rfl
 |.ro::ms,v::vs,ob,R,k=>by simp only[jS];rw[mc ms vs ob (fun xs ob=>k (none::xs) ob),mc ms vs ob (fun xs ob=>some (none::xs,ob)),cX];rfl
 |.mv (.own τ)::ms,[],ob,R,k=>rfl
 |.mv (.own τ)::ms,v::vs,ob,R,k=>by simp only[jS];rw[Mz ob τ v,Mz ob τ v (fun x ob'=>jS ob' ms vs fun xs ob=>some (some (.new τ x)::xs,ob)),cX];congr 1;funext p;rw[mc ms vs p.2 (fun xs ob=>k (some (.new τ p.1)::xs) ob),mc ms vs p.2 (fun xs ob=>some (some (.new τ p.1)::xs,ob)),cX];rfl
 |.mv (.d τ)::ms,_,ob,R,k=>by cases ‹List AV› <;> rfl
 |.mv (.agg a b)::ms,_,ob,R,k=>by cases ‹List AV› <;> rfl
 |.io s::ms,[],ob,R,k=>rfl
 |.io s::ms,v::vs,ob,R,k=>by simp only[jS];rw[OZ ob s v,OZ ob s v (fun x ob'=>jS ob' ms vs fun xs ob=>some (some (Au (nY s x))::xs,ob)),cX];congr 1;funext p;rw[mc ms vs p.2 (fun xs ob=>k (some (Au (nY s p.1))::xs) ob),mc ms vs p.2 (fun xs ob=>some (some (Au (nY s p.1))::xs,ob)),cX];rfl
theorem r7(ob:cW):∀(xs:List (Option AV)) (ts:List TypeId) (vs:List AV) {R:Type} (k:List AV->Option R),s5 E ob xs ts vs k=(s5 E ob xs ts vs some).bind k
 |[],[],[],R,k=>rfl
 |[],[],_::_,R,k=>rfl
 |[],_::_,_,R,k=>rfl
 |some x::xs,[],vs,R,k=>rfl
 |some x::xs,_::_,[],R,k=>rfl
 |some x::xs,t::ts,v::vs,R,k=>by simp only[s5];rw[r7 ob xs ts vs (fun ys=>k (x::ys)),r7 ob xs ts vs (fun ys=>some (x::ys)),cX];rfl
 |none::xs,[],vs,R,k=>rfl
 |none::xs,_::_,[],R,k=>rfl
 |none::xs,t::ts,v::vs,R,k=>by
  simp only[s5];cases nk v with
  |true=>rfl
  |false=>simp only[uP];rw[F2,F2 (R:=List AV),cX];congr 1;funext y;rw[r7 ob xs ts vs (fun ys=>k (y::ys)),r7 ob xs ts vs (fun ys=>some (y::ys)),cX];rfl
theorem Ol(o:Oper)(st:St)(g:FuncId)(ms:List Mode)(s:List Sh)(ts:List TypeId)(args:List AV)(k:St->Option R):xp E C o st g ms s ts args k=(xp E C o st g ms s ts args some).bind k:=by
 unfold xp;simp only[xa];cases !ms.all Mode.isV with
 |true=>rfl
 |false=>
  simp only[uP];rw[mc,mc (R:=St),cX];congr 1;funext p;rw[r7,r7 (R:=St),cX];congr 1;funext ys;generalize C g ys (s++df ms)=q;cases q with
  |none=>rfl
  |some q=>simp only[aj];generalize sH st p.2 o.dst ms args _ _=q2;cases q2<;>rfl
theorem Pw(x:Xt)(dst:Option Tmp)(st:St)(args:List AV)(k:St->Option R):Lh x dst st args k=(Lh x dst st args some).bind k:=by
 unfold Lh;split
 .rename_i τ f c key r;cases qc c r with
  |false=>rfl
  |true=>simp only[pD];split;split;exact qe _ _ k;rfl;rfl
 split;split;exact qe _ _ k;rfl;rfl
 .rename_i f;cases f st.ob args with
  |none=>rfl
  |some p=>obtain⟨b,v⟩:=p;cases v<;>cases b<;>rfl
 split;split;exact qe _ _ k;rfl;rfl;rfl
theorem Pb(o:Oper)(st:St)(k:St->Option R):l9 E C o st k=(l9 E C o st some).bind k:=by
 unfold l9;split;split;exact Ma _ _ _ _ _ _ _ k;split;unfold EN;split;rename_i cs _;generalize (Nat.blt _ cs.length&&(al E.ot _).isSome)=c;cases c<;>rfl;rfl;exact Gl _ _ _ _ _ k;exact Gl _ _ _ _ _ k;exact wR _ _ _ _ k
 .split;split;split;exact EA _ _ _ _ _ _ k;exact EA _ _ _ _ _ _ k;exact wR _ _ _ _ k;rfl;split;unfold FM;split;split;rename_i e τ l _ _;generalize (decide (e=τ)&&τ.one)=c;cases c<;>rfl;rfl;rfl;rfl
  .split
   .unfold JZ;split
    .split
     .rename_i e σ l _ _;cases e.one with
      |false=>rfl
      |true=>simp only[pD];split;rename_i h;rw[ny,ny (R:=St),cX];rfl;rfl
     rfl
    rfl
   rfl
  .split
   .split
    .rename_i ms s _;cases ms.all Mode.isRo with
     |true=>exact wR _ _ _ _ k
     |false=>simp only[uP];split;exact Ol _ _ _ _ _ _ _ k;rfl
    split;exact Pw _ _ _ _ k;exact wR _ _ _ _ k
   rfl
  exact wR _ _ _ _ k
 exact wR _ _ _ _ k
theorem pS(ops:Array Oper)(sl:List AV)(o:Oper)(k:Bool->List AV->Option R):rU ops sl o k=(rU ops sl o fun a b=>some (a,b)).bind fun p=>k p.1 p.2:=by unfold rU;split;rfl;split;split;rename_i b _;cases (show Bool from b)<;>rfl;rfl;rfl;rfl
theorem Bi(ops:Array Oper)(o:Oper)(st:St)(k:St->Option R):l8 E C ops o st k=(l8 E C ops o st some).bind k:=by unfold l8;rw[pS,pS (R:=St),cX];congr 1;funext p;obtain⟨b,sl⟩:=p;cases b;rfl;exact Pb _ _ k
theorem J6(ops:Array Oper)(m:List Oper)(ob:cW)(o:Oper)(sl:List AV)(k:List AV->Option R):tO E C ops m ob o sl k=(tO E C ops m ob o sl some).bind k:=by
 unfold tO;rw[pS,pS (R:=List AV),cX];congr 1;funext p;obtain⟨b,sl⟩:=p;cases b;.rfl
 .dsimp only[cond_true];rw[wU,wU (R:=List AV),cX];congr 1;funext v;split;.exact rF _ (some _) k
  .rfl
theorem I7{ob:cW}{Cn:Nat->bC}(hn:xf C Cn){fv:AV}{ts:List TypeId}{args:List AV}{k:AV->Option R}{v:R}(h:tJ E C ob fv ts args k=some v):∃n,∀m,n<=m->tJ E (Cn m) ob fv ts args k=some v:=by
 unfold tJ at h;split at h
 .rename_i g caps;split at h;rename_i e hcl;exact⟨0,fun _ _=>by unfold tJ;simp only[hcl];exact h⟩
  .rename_i hcl;split at h;rename_i e hgr;exact⟨0,fun _ _=>by unfold tJ;simp only[hcl,hgr];exact h⟩;rename_i hgr;split at h
   .rename_i ms s hsg;cases hc:(s.any Sh.hasList&&(args.any nk||caps.any AS) || !ms.all Mode.isRo) with
    |true=>rw[hc]at h;cases h
    |false=>rw[hc]at h;simp only[uP]at h;rw[w9]at h;obtain⟨xs,hxs,h1⟩:=bind_some h;obtain⟨z,hz,h2⟩:=bind_some h1;obtain⟨n,hn⟩:=hn _ _ _ _ hz;refine⟨n,fun m hm=>?_⟩;unfold tJ;simp only[hcl,hgr,hsg,hc,uP];rw[w9,hxs];simp only[aj,hn m hm];exact h2
   cases h
 cases h
theorem kS{ob:cW}{ρ:Operand->AV}{Cn:Nat->bC}(hn:xf C Cn){o:Oper}{k:AV->Option R}{v:R}(h:ec E C ob ρ o k=some v):∃n,∀m,n<=m->ec E (Cn m) ob ρ o k=some v:=by
 obtain⟨dst,op,type,pos,after,guard⟩:=o;cases op with
 |call c=>
  obtain⟨callee,args,ts⟩:=c;cases callee with
  |value g=>obtain⟨n,h1⟩:=I7 hn (show tJ E C ob (ρ g) ts.toList (args.toList.map ρ) k=some v from h);exact⟨n,h1⟩
  |builtin b=>exact⟨0,fun _ _=>h⟩
  |invoke x m=>exact⟨0,fun _ _=>h⟩
 |makeFunc fn first caps=>cases fn<;>exact⟨0,fun _ _=>h⟩
 |_=>exact⟨0,fun _ _=>h⟩
theorem I6{Cn:Nat->bC}(hn:xf C Cn){o:Oper}{st:St}{g:FuncId}{ms:List Mode}{s:List Sh}{ts:List TypeId}{args:List AV}{k:St->Option R}{v:R}(h:xp E C o st g ms s ts args k=some v):
  ∃n,∀m,n<=m->xp E (Cn m) o st g ms s ts args k=some v:=by
 unfold xp at h;simp only[xa]at h;cases hg : !ms.all Mode.isV with
 |true=>rw[hg]at h;cases h
 |false=>rw[hg]at h;simp only[uP]at h;rw[mc]at h;obtain⟨p,hp,h1⟩:=bind_some h;rw[r7]at h1;obtain⟨ys,hy,h2⟩:=bind_some h1;obtain⟨z,hz,h3⟩:=bind_some h2;obtain⟨n,hn⟩:=hn _ _ _ _ hz;refine⟨n,fun m hm=>?_⟩;unfold xp;simp only[xa];rw[hg];simp only[uP];rw[mc,hp];simp only[aj];rw[r7,hy];simp only[aj,hn m hm];exact h3
theorem Kk{Cn:Nat->bC}(hn:xf C Cn){o:Oper}{st:St}{k:St->Option R}{v:R}(h:l9 E C o st k=some v):∃n,∀m,n<=m->l9 E (Cn m) o st k=some v:=by
 unfold l9 at h;split at h;rename_i t a x ho;exact⟨0,fun _ _=>by unfold l9;rw[ho];exact h⟩;rename_i t m ps ho;obtain⟨n,h1⟩:=kS hn h;exact⟨n,fun m' hm=>by unfold l9;rw[ho];exact h1 m' hm⟩
 .rename_i c ho;obtain⟨callee,args,ts⟩:=c;cases callee with
  |builtin b=>
   by_cases hb:b = .append
   .subst hb;simp only at h;split at h
    .rename_i x y hargs;split at h;rename_i key hx;exact⟨0,fun _ _=>by unfold l9;rw[ho];simp only[hargs,hx];exact h⟩;rename_i key len hx;exact⟨0,fun _ _=>by unfold l9;rw[ho];simp only[hargs,hx];exact h⟩
     .rename_i h1 h2;obtain⟨n,h3⟩:=kS hn h;refine⟨n,fun m' hm=>?_⟩;unfold l9;rw[ho];dsimp only;rw[hargs];dsimp only;generalize hx:bk st.sl x=a at h1 h2;cases a<;>first
       |exact h3 m' hm
       |exact(h1 _ rfl).elim
       |(rename_i key off len;cases off<;>first|exact(h2 _ _ rfl).elim|exact h3 m' hm)
    cases h
   by_cases hb2:b = .clear;subst hb2;exact⟨0,fun _ _=>by unfold l9;rw[ho];exact h⟩;by_cases hb3:b = .copy;subst hb3;exact⟨0,fun _ _=>by unfold l9;rw[ho];exact h⟩
   .have he:∀C',l9 E C' o st k=ec E C' st.ob (bk st.sl) o fun v=>k (st.put o.dst v):=by intro C';unfold l9;rw[ho];cases b<;>first|rfl|exact absurd rfl hb|exact absurd rfl hb2|exact absurd rfl hb3
    have h':ec E C st.ob (bk st.sl) o (fun v=>k (st.put o.dst v))=some v:=by rw[<-he];unfold l9;rw[ho];exact h
    obtain⟨n,h3⟩:=kS hn h';exact⟨n,fun m' hm=>by rw[he];exact h3 m' hm⟩
  |value g=>
   simp only at h;split at h
   .rename_i g' caps hg;split at h
    .rename_i ms s hsg;cases hr:ms.all Mode.isRo with
     |false=>rw[hr]at h;simp only[uP]at h;split at h;obtain⟨n,h3⟩:=I6 hn h;exact⟨n,fun m' hm=>by unfold l9;rw[ho];simp only[hg,hsg,hr,uP];exact h3 m' hm⟩;cases h
     |true=>rw[hr]at h;simp only[pD]at h;obtain⟨n,h3⟩:=kS hn h;exact⟨n,fun m' hm=>by unfold l9;rw[ho];simp only[hg,hsg,hr,pD];exact h3 m' hm⟩
    .rename_i hsg;have go:∀(h':ec E C st.ob (bk st.sl) o (fun v=>k (st.put o.dst v))=some v) (he:∀C',l9 E C' o st k=ec E C' st.ob (bk st.sl) o fun v=>k (st.put o.dst v)),∃n,∀m,n<=m->l9 E (Cn m) o st k=some v:=fun h' he=>by obtain⟨n,h3⟩:=kS hn h';exact⟨n,fun m' hm=>by rw[he];exact h3 m' hm⟩
     cases hso:al E.so g' with
     |none=>rw[hso]at h;exact go h fun C'=>by unfold l9;rw[ho];simp only[hg,hsg,hso]
     |some x=>
      rw[hso]at h;cases caps with
      |nil=>exact⟨0,fun _ _=>by unfold l9;rw[ho];simp only[hg,hsg,hso];exact h⟩
      |cons c cs=>exact go h fun C'=>by unfold l9;rw[ho];simp only[hg,hsg,hso]
   cases h
  |invoke x m=>obtain⟨n,h3⟩:=kS hn h;exact⟨n,fun m' hm=>by unfold l9;rw[ho];exact h3 m' hm⟩
 rename_i h1 h2 h3;have he:∀C',l9 E C' o st k=ec E C' st.ob (bk st.sl) o fun v=>k (st.put o.dst v):=by intro C';unfold l9;split;rename_i t a x ho;exact absurd ho (h1 t a x);rename_i t m ps ho;exact absurd ho (h2 t m ps);rename_i c ho;exact absurd ho (h3 c);rfl
 obtain⟨n,h4⟩:=kS hn h;exact⟨n,fun m' hm=>by rw[he];exact h4 m' hm⟩
theorem Bq{ops:Array Oper}{sl:List AV}{o:Oper}{k:Bool->List AV->Option R}{r:R}(h:rU ops sl o k=some r):∃b sl',(rU ops sl o fun a b=>some (a,b))=some (b,sl')/\k b sl'=some r:=by rw[pS]at h;obtain⟨p,h1,h2⟩:=bind_some h;exact⟨p.1,p.2,h1,h2⟩
theorem BB{Cn:Nat->bC}(hn:xf C Cn){ops:Array Oper}{o:Oper}{st:St}{k:St->Option R}{v:R}(h:l8 E C ops o st k=some v):∃n,∀m,n<=m->l8 E (Cn m) ops o st k=some v:=by
 unfold l8 at h;obtain⟨b,sl,h1,h2⟩:=Bq h;cases b with
 |false=>exact⟨0,fun m _=>by unfold l8;rw[pS,h1];exact h2⟩
 |true=>obtain⟨n,h3⟩:=Kk hn h2;exact⟨n,fun m hm=>by unfold l8;rw[pS,h1];exact h3 m hm⟩
theorem Jm{Cn:Nat->bC}(hn:xf C Cn){ops:Array Oper}{l:List Oper}{ob:cW}{o:Oper}{sl:List AV}{k:List AV->Option R}{v:R}(h:tO E C ops l ob o sl k=some v):∃n,∀m,n<=m->tO E (Cn m) ops l ob o sl k=some v:=by
 unfold tO at h;obtain⟨b,sl',h1,h2⟩:=Bq h;cases b with
 |false=>exact⟨0,fun m _=>by unfold tO;rw[pS,h1];exact h2⟩
 |true=>simp only[pD]at h2;obtain⟨n,h3⟩:=kS hn h2;exact⟨n,fun m hm=>by unfold tO;rw[pS,h1];exact h3 m hm⟩
theorem D9{α:Type}{l:List (Option α)}{r:α}(h:ae l=some r):l≠[]/\∀x∈l,x=some r:=by unfold ae at h;split at h;cases h;rename_i x l;split at h;rename_i hx;refine⟨by simp,fun y hy=>?_⟩;rcases eR.1 hy with e|hy;rw[e];exact h;rw[hx y hy];exact h;cases h
open Classical in
theorem MI{α:Type}{l:List (Option α)}{r:α}(h0:l≠[])(h:∀x∈l,x=some r):ae l=some r:=by
 cases l with
 |nil=>exact absurd rfl h0
 |cons x l=>have hx:=h x (ix ..);show(if ∀y∈l,y=x then x else none)=some r;rw[aa fun y hy=>by rw[hx,h y (jI _ hy)]];exact hx
open Classical in
theorem qh{α:Type}(x:Option α):∀(n:Nat),ae (List.replicate (n+1) x)=x:=fun n=>by show(if ∀y∈List.replicate n x,y=x then x else none)=x;rw[aa fun y hy=>List.eq_of_mem_replicate hy]
theorem Fj{α:Type}(x:Option α):ae [x,x]=x:=qh x 1
theorem Fi{α:Type}(x:Option α):ae [x,x,x]=x:=qh x 2
theorem Fh{α:Type}(x:Option α):ae [x,x,x,x]=x:=qh x 3
theorem Fg{α:Type}(x:Option α):ae [x,x,x,x,x]=x:=qh x 4
theorem Ff{α:Type}(x:Option α):ae [x,x,x,x,x,x]=x:=qh x 5
theorem Fk{α:Type}(x:Option α):ae [x]=x:=qh x 0
theorem OW{α β:Type}{F:β->Option α}{Fn:Nat->β->Option α}{r:α}:∀(l:List β),(∀x∈l,∃n,∀m,n<=m->Fn m x=some r)->∃n,∀m,n<=m->∀x∈l,Fn m x=some r
 |[],_=>⟨0,fun _ _ x hx=>by cases hx⟩
 |x::l,h=>by obtain⟨n1,h1⟩:=h x (ix ..);obtain⟨n2,h2⟩:=OW (F:=F) l fun y hy=>h y (jI _ hy);refine⟨max n1 n2,fun m hm y hy=>?_⟩;rcases eR.1 hy with e|hy;rw[e];exact h1 m (by omega);exact h2 m (by omega) y hy
theorem FF{Cn:Nat->bC}(hn:xf C Cn){ops:Array Oper}{K:St->Option R}{Kn:Nat->St->Option R}(hK:∀st r,K st=some r->∃n,∀m,n<=m->Kn m st=some r):∀(n:Nat) (listed:Array Bool) (st:St) (r:R),
  explore E C ops K n listed st=some r->∃q,∀m,q<=m->explore E (Cn m) ops (Kn m) n listed st=some r:=by
 intro n
 induction n with
 |zero=>intro listed st r h;unfold explore at h;split at h;rename_i hr;obtain⟨q,h1⟩:=hK st r h;exact⟨q,fun m hm=>by unfold explore;rw[hr];exact h1 m hm⟩;cases h
 |succ n ih=>
  intro listed st r h;have one:∀(i:Nat),(match ops[i]? with|some o=>l8 E C ops o st (explore E C ops K n (listed.setIfInBounds i true))|none=>none)=some r ->
    ∃q,∀m,q<=m->(match ops[i]? with|some o=>l8 E (Cn m) ops o st (explore E (Cn m) ops (Kn m) n (listed.setIfInBounds i true))|none=>none)=some r:=by
   intro i h;cases ho:ops[i]? with
   |none=>rw[ho]at h;cases h
   |some o=>rw[ho]at h;simp only at h ⊢;rw[Bi]at h;obtain⟨st',h1,h2⟩:=bind_some h;obtain⟨n1,h3⟩:=BB hn h1;obtain⟨n2,h4⟩:=ih _ _ _ h2;refine⟨max n1 n2,fun m hm=>?_⟩;rw[Bi,h3 m (by omega)];exact h4 m (by omega)
  unfold explore at h;split at h;rename_i hr;obtain⟨q,h1⟩:=hK st r h;exact⟨q,fun m hm=>by unfold explore;rw[hr];exact h1 m hm⟩;rename_i j js hr;split at h;rename_i i hi;obtain⟨q,h1⟩:=one i h;exact⟨q,fun m hm=>by unfold explore;rw[hr];simp only[hi];exact h1 m hm⟩;rename_i hi;obtain⟨h0,hall⟩:=D9 h;obtain⟨q,h1⟩:=OW (F:=fun i=>match ops[i]? with|some o=>l8 E C ops o st (explore E C ops K n (listed.setIfInBounds i true))|none=>none) (Fn:=fun m i=>match ops[i]? with|some o=>l8 E (Cn m) ops o st (explore E (Cn m) ops (Kn m) n (listed.setIfInBounds i true))|none=>none) (j::js) fun i hi'=>one i (hall _ (PZ hi'));refine⟨q,fun m hm=>?_⟩;unfold explore;rw[hr];simp only[hi];refine MI (by simp) fun x hx=>?_;obtain⟨i,hi',rfl⟩:=jC.1 hx;exact h1 m hm i hi'
def jK(s:List Sh)(D:List It->St->Option (eU s))(Dn:Nat->List It->St->Option (eU s)):Prop:=∀t st r,D t st=some r->∃n,∀m,n<=m->Dn m t st=some r
theorem zR{s:List Sh}{D:List It->St->Option (eU s)}{Dn:Nat->List It->St->Option (eU s)}{Cn:Nat->bC}(hD:jK s D Dn)(hC:xf C Cn){t:List It}{st:St}{r:eU s}(h:ql E s D C t st=some r):
  ∃n,∀m,n<=m->ql E s (Dn m) (Cn m) t st=some r:=by
 cases t with
 |nil=>exact⟨0,fun _ _=>h⟩
 |cons i k=>
  cases i with
  |code c=>
   cases c with
   |ret=>exact⟨0,fun _ _=>h⟩
   |skip=>exact hD _ _ _ h
   |seq a b=>exact hD _ _ _ h
   |cond c x y=>
    obtain⟨b,hb,h1⟩:=yd (show xr (bk st.sl c) (fun b=>bif b then D (.code x::k) st else D (.code y::k) st)=some r from h);cases b with
    |true=>obtain⟨n,h2⟩:=hD _ _ _ h1;exact⟨n,fun m hm=>by show xr (bk st.sl c) _=_;rw[hb];exact h2 m hm⟩
    |false=>obtain⟨n,h2⟩:=hD _ _ _ h1;exact⟨n,fun m hm=>by show xr (bk st.sl c) _=_;rw[hb];exact h2 m hm⟩
   |block id b=>exact hD _ _ _ h
   |loop b=>exact hD _ _ _ h
   |exit id=>simp only[ql]at h;split at h;rename_i k' hk;obtain⟨n,h2⟩:=hD _ _ _ h;exact⟨n,fun m hm=>by simp only[ql,hk];exact h2 m hm⟩;cases h
   |region id ops draw=>
    simp only[ql]at h;cases draw with
    |false=>obtain⟨n,h2⟩:=hD _ _ _ h;exact⟨n,fun m hm=>by simp only[ql];exact h2 m hm⟩
    |true=>
     simp only[pD]at h;split at h
     .rename_i q hq;cases hb:Nat.ble 1000 q with
      |true=>
       rw[hb]at h;simp only[pD]at h;cases hs:Region.noSelect ops with
       |false=>rw[hs]at h;cases h
       |true=>rw[hs]at h;obtain⟨n,h2⟩:=FF hC (Kn:=fun m=>Dn m k) (fun st r h=>hD _ _ _ h) _ _ _ _ h;exact⟨n,fun m hm=>by simp only[ql,hq,hb,hs,pD];exact h2 m hm⟩
      |false=>
       rw[hb]at h;simp only[uP]at h;cases hc:Hq ops q with
       |false=>rw[hc]at h;cases h
       |true=>rw[hc]at h;obtain⟨n,h2⟩:=hD _ _ _ h;exact⟨n,fun m hm=>by simp only[ql,hq,hb,hc,pD,uP];exact h2 m hm⟩
     cases h
   |_=>cases h
  |ops all l=>
   cases l with
   |nil=>exact hD _ _ _ h
   |cons o l=>have h0:l8 E C all o st (fun st=>D (.ops all l::k) st)=some r:=h;rw[Bi]at h0;obtain⟨st',h1,h2⟩:=bind_some h0;obtain⟨n1,h3⟩:=BB hC h1;obtain⟨n2,h4⟩:=hD _ _ _ h2;refine⟨max n1 n2,fun m hm=>?_⟩;show l8 E (Cn m) all o st (fun st=>Dn m (.ops all l::k) st)=some r;rw[Bi,h3 m (by omega)];exact h4 m (by omega)
  |aops all l q=>
   cases l with
   |nil=>exact hD _ _ _ h
   |cons o l=>have h0:tO E C all q st.ob o st.sl (fun sl=>D (.aops all l q::k) { st with sl:=sl })=some r:=h;rw[J6]at h0;obtain⟨sl,h1,h2⟩:=bind_some h0;obtain⟨n1,h3⟩:=Jm hC h1;obtain⟨n2,h4⟩:=hD _ _ _ h2;refine⟨max n1 n2,fun m hm=>?_⟩;show tO E (Cn m) all q st.ob o st.sl (fun sl=>Dn m (.aops all l q::k) { st with sl:=sl })=some r;rw[J6,h3 m (by omega)];exact h4 m (by omega)
  |inLoop c=>exact hD _ _ _ h
  |loopAt c=>exact hD _ _ _ h
  |inBlock id=>exact hD _ _ _ h
def qd(E:Env)(D:(s:List Sh)->List It->St->Option (eU s)):bC:=fun f args s=>
 match IN E f args with
 |some (c,st)=>D s [.code c] st
 |none=>none
def bt(E:Env)(D:(s:List Sh)->List It->St->Option (eU s)):bC:=fun f args s=>
 match al E.hk f with
 |some _=>none
 |none=>qd E D f args s
def eo(E:Env)(D:(s:List Sh)->List It->St->Option (eU s)):bC:=fun f args s=>
 match al E.hk f with
 |some h=>h.run (bt E D) args s
 |none=>qd E D f args s
noncomputable def eI(E:Env):Nat->(s:List Sh)->List It->St->Option (eU s)
 |0,_,_,_=>none
 |n+1,s,t,st=>ql E s (eI E n s) (eo E (eI E n)) t st
theorem CW{D:(s:List Sh)->List It->St->Option (eU s)}{Dn:Nat->(s:List Sh)->List It->St->Option (eU s)}(hD:∀s,jK s (D s) (fun n=>Dn n s)):xf (qd E D) (fun n=>qd E (Dn n)):=by intro g xs s z h;unfold qd at h;split at h;rename_i c st hi;obtain⟨n,h1⟩:=hD s _ _ _ h;exact⟨n,fun m hm=>by unfold qd;simp only[hi];exact h1 m hm⟩;cases h
theorem I8{D:(s:List Sh)->List It->St->Option (eU s)}{Dn:Nat->(s:List Sh)->List It->St->Option (eU s)}(hD:∀s,jK s (D s) (fun n=>Dn n s)):xf (bt E D) (fun n=>bt E (Dn n)):=by intro g xs s z h;unfold bt at h;split at h;cases h;rename_i hn;obtain⟨n,h1⟩:=CW hD g xs s z h;exact⟨n,fun m hm=>by unfold bt;simp only[hn];exact h1 m hm⟩
theorem wZ{D:(s:List Sh)->List It->St->Option (eU s)}{Dn:Nat->(s:List Sh)->List It->St->Option (eU s)}(hD:∀s,jK s (D s) (fun n=>Dn n s)):xf (eo E D) (fun n=>eo E (Dn n)):=by intro g xs s z h;unfold eo at h;split at h;rename_i k hk;obtain⟨n,h1⟩:=k.near (I8 hD) xs s z h;exact⟨n,fun m hm=>by unfold eo;simp only[hk];exact h1 m hm⟩;rename_i hk;obtain⟨n,h1⟩:=CW hD g xs s z h;exact⟨n,fun m hm=>by unfold eo;simp only[hk];exact h1 m hm⟩
theorem DV:∀(n:Nat) (s:List Sh) (t:List It) (st:St) (r:eU s),eI E n s t st=some r->eI E (n+1) s t st=some r
 |0,s,t,st,r,h=>by cases h
 |n+1,s,t,st,r,h=>by have hD:∀s,jK s (eI E n s) (fun _=>eI E (n+1) s):=fun s t st r h=>⟨0,fun _ _=>DV n s t st r h⟩;obtain⟨m,h1⟩:=zR (hD s) (wZ (Dn:=fun _=>eI E (n+1)) hD) (show ql E s (eI E n s) (eo E (eI E n)) t st=some r from h);exact h1 m (dD _)
theorem Bj{n m:Nat}(hm:n<=m){s:List Sh}{t:List It}{st:St}{r:eU s}(h:eI E n s t st=some r):eI E m s t st=some r:=by
 induction hm with
 |refl=>exact h
 |step _ ih=>exact DV _ s t st r ih
open Classical in
noncomputable def DM(E:Env)(s:List Sh)(t:List It)(st:St):Option (eU s):=
 if h:∃r,∃n,eI E n s t st=some r then some h.choose else none
noncomputable def DF(E:Env):bC:=eo E (DM E)
theorem Dg{s:List Sh}{t:List It}{st:St}{r:eU s}:DM E s t st=some r↔∃n,eI E n s t st=some r:=by unfold DM;constructor;intro h;split at h;rename_i he;cases h;exact he.choose_spec;cases h;rintro⟨n,h⟩;have he:∃r,∃n,eI E n s t st=some r:=⟨r,n,h⟩;rw[dif_pos he];obtain⟨m,h2⟩:=he.choose_spec;have h3:=Bj (Nat.le_max_left n m) h;have h4:=Bj (Nat.le_max_right n m) h2;rw[h3]at h4;exact h4.symm
theorem Nv(s:List Sh)(t:List It)(st:St):DM E s t st=ql E s (DM E s) (DF E) t st:=by
 apply Option.ext;intro r;constructor
 .intro h;obtain⟨n,h⟩:=Dg.1 h;cases n with
  |zero=>cases h
  |succ n=>have hD:∀s,jK s (eI E n s) (fun _=>DM E s):=fun s t st r h=>⟨0,fun _ _=>Dg.2 ⟨n,h⟩⟩;obtain⟨m,h1⟩:=zR (hD s) (wZ (Dn:=fun _=>DM E) hD) (show ql E s (eI E n s) (eo E (eI E n)) t st=some r from h);exact h1 m (dD _)
 intro h;have hD:∀s,jK s (DM E s) (fun n=>eI E n s):=fun s t st r h=>by obtain⟨n,h⟩:=Dg.1 h;exact⟨n,fun m hm=>Bj hm h⟩
 obtain⟨n,h1⟩:=zR (hD s) (wZ (Dn:=eI E) hD) h;exact Dg.2 ⟨n+1,h1 n (dD _)⟩
theorem Jv(s:List Sh):∀(n:Nat) (t:List It) (st:St),DM E s t st=runM E s (DM E s) (DF E) n t st
 |0,t,st=>rfl
 |n+1,t,st=>by have ih:runM E s (DM E s) (DF E) n=DM E s:=funext fun t=>funext fun st=>(Jv s n t st).symm;unfold runM;split;rfl;rw[ih];exact Nv s t st
noncomputable def D0(E:Env)(n:Nat)(f:FuncId)(a:List AV)(s:List Sh):Option (eU s):=
 match al E.hk f with
 |some _=>DF E f a s
 |none=>match IN E f a with
  |some (c,st)=>runM E s (DM E s) (DF E) n [.code c] st
  |none=>none
theorem bl(n:Nat)(f:FuncId)(a:List AV)(s:List Sh):DF E f a s=D0 E n f a s:=by
 unfold D0;cases h:al E.hk f with
 |some k=>rfl
 |none=>unfold DF eo qd;simp only[h];split;exact Jv s n _ _;rfl
theorem F5{f:FuncId}{k:HK}(h:al E.hk f=some k){a:List AV}{s:List Sh}:DF E f a s=k.run (bt E (DM E)) a s:=by show eo E (DM E) f a s=_;unfold eo;simp only[h]
theorem tQ{g:FuncId}(h:al E.hk g=none){a:List AV}{s:List Sh}:bt E (DM E) g a s=DF E g a s:=by show _=eo E (DM E) g a s;unfold bt eo;simp only[h]
theorem aC(n:Nat)(s:List Sh)(b:Code)(k:List It)(st:St):DM E s (.loopAt b::k) st=runM E s (DM E s) (DF E) n (.code b :: .inLoop b::k) st:=by rw[Nv];exact Jv s n _ _
end
end
section
section
variable {b0:Nat->Prop} {β:bd} {ob:cW} {w:World}
theorem wO{α:Type}:∀{l:List α} {t:Nat} {x d:α},l.getD t d=x->t<l.length->mZ l t x=l
 |[],t,x,d,_,h=>by simp at h
 |y::r,0,x,d,h,_=>by simp at h;simp[mZ,h]
 |y::r,t+1,x,d,h,hl=>by simp only[mZ];rw[wO (l:=r) (t:=t) (d:=d) (by simpa using h) (by simpa using hl)]
theorem JE{sl:List AV}{t:Nat}(h:sl.getD t .any ≠ .any):t<sl.length:=by rcases iQ t sl.length with h'|h';exact h';exact absurd (by simp[List.getD,qA h']) h
theorem AP{R:Type}{f:Nat->Ln}{sl:List AV}{tmps:Array Value}(hS:SR b0 β ob w sl tmps f){ops:Array Oper}{o:Oper}{k:Bool->List AV->Option R}{r:R}(hk:rU ops sl o k=some r):
  k (Region.wanted o (yielded ops tmps)) sl=some r:=by
 unfold rU at hk;split at hk;rename_i hg;simp only[Region.wanted,hg];exact hk
 .rename_i j wt hg;split at hk
  .rename_i t ht;have hsl:=hS.slot t;split at hk
   .rename_i b hb;rw[hb]at hsl;obtain⟨hv,_⟩:=iG hsl;have hlt:t<sl.length:=JE (by rw[hb];simp);have hlt':t<tmps.size:=by rw[hS.size];exact hlt
    have hy:yielded ops tmps j=some b:=by
     unfold yielded;rw[ht];have:tmps[t]?=some (.bool b):=by rw[RT hlt'];simpa[hlt']using hv
     simp[this]
    have hsame:=fun x (hx:sl.getD t .any=x)=>wO (l:=sl) (t:=t) (x:=x) (d:=.any) hx hlt;have hw:Region.wanted o (yielded ops tmps)=(some b==some wt):=by simp only[Region.wanted,hg,hy]
    rw[hw];cases b with
    |true=>simp only[pD]at hk;rw[hsame _ hb]at hk;cases wt<;>exact hk
    |false=>simp only[uP]at hk;rw[hsame _ hb]at hk;cases wt<;>exact hk
   rename_i hb;rw[hb]at hsl;have hv:tmps.getD t undef=undef:=hsl.1;have hy:yielded ops tmps j=none:=by
    unfold yielded;rw[ht];cases h:tmps[t]? with
    |none=>simp[h]
    |some x=>
     have:x=undef:=by
      have h2:tmps.getD t undef=x:=by simp[h]
      rw[<-h2];exact hv
     subst this;simp[h,undef]
   have hw:Region.wanted o (yielded ops tmps)=false:=by simp[Region.wanted,hg,hy]
   rw[hw];exact hk;cases hk
  cases hk
theorem Rel.skip{st:St}{tmps:Array Value}(h:Rel b0 β st w tmps)(dst:Option Nat):jE b0 β st (st.put dst .non) w w (iH tmps dst undef):=by obtain⟨β',h1,h2⟩:=h.put (w':=w) (used:=[]) (av:=.non) (v:=undef) (bs:=[]) (jF.stay ⟨rfl,rfl⟩) dst;exact⟨⟨β',h1,h2⟩,bM.refl _ _⟩
theorem rY{P:Program}{R:Type}{E:Env}(hA:iw P E){C:bC}(hC:fP P E C){st:St}{a:Act}(hS:Rel b0 β st w a.tmps){ops:Array Oper}{o:Oper}{k:St->Option R}{r:R}(hk:l8 E C ops o st k=some r):
  ∃st',k st'=some r/\st'.f=st.f/\∀next Q,(∀v w',jE b0 β st st' w w' (iH a.tmps o.dst v)->next (a.put o.dst v) w') ->
   if Region.wanted o (yielded ops a.tmps)=true then o.wp P a w next Q else next (a.put o.dst undef) w:=by
 have h1:=AP hS.sr hk;cases hw:Region.wanted o (yielded ops a.tmps) with
 |true=>rw[hw]at h1;obtain⟨st',h2,h3,h4⟩:=Ig hA hC hS h1;exact⟨st',h2,h3,fun next Q hn=>by rw[aa rfl];exact h4 next Q hn⟩
 |false=>rw[hw]at h1;refine⟨_,h1,by cases o.dst<;>rfl,fun next Q hn=>?_⟩;rw[ab (by simp)];exact hn undef w (hS.skip o.dst)
theorem jE.trans{st st1 st2:St}{w1 w2:World}{tmps1 tmps2:Array Value}{β1:bd}(h:Rel b0 β1 st1 w1 tmps1)(ho:∀b,dd β1 st1.ob b->dd β st.ob b\/w.heap.size<=b)(hs:bM (dd β st.ob) w w1)(h':jE b0 β1 st1 st2 w1 w2 tmps2):jE b0 β st st2 w w2 tmps2:=by obtain⟨⟨β2,g1,g2⟩,g3⟩:=h';refine⟨⟨β2,g1,fun b hb=>?_⟩,hs.trans g3 fun b hlt hb=>(ho b hb).resolve_right (by omega)⟩;rcases g2 b hb with h1|h1;exact ho b h1;exact .inr (kz hs.1 h1)
theorem jE.refl{st:St}{tmps:Array Value}(h:Rel b0 β st w tmps):jE b0 β st st w w tmps:=⟨⟨β,h,fun b hb=>.inl hb⟩,bM.refl _ _⟩
theorem put_defers(a:Act)(dst:Option Nat)(v:Value):(a.put dst v).defers=a.defers:=by cases dst<;>rfl
def Kept(np:Nat)(a a':Act):Prop:=a'.defers=a.defers/\∀i,i<np->a'.tmps.getD i undef=a.tmps.getD i undef
theorem Kept.refl(np:Nat)(a:Act):Kept np a a:=⟨rfl,fun _ _=>rfl⟩
theorem Kept.trans{np:Nat}{a a1 a2:Act}(h:Kept np a a1)(h':Kept np a1 a2):Kept np a a2:=⟨h'.1.trans h.1,fun i hi=>(h'.2 i hi).trans (h.2 i hi)⟩
theorem Kept.put{np:Nat}{a a1:Act}{o:Oper}(h:Kept np a a1)(ho:uU np o=true)(v:Value):Kept np a (a1.put o.dst v):=by
 refine⟨(put_defers _ _ _).trans h.1,fun i hi=>?_⟩;rw[nj,<-h.2 i hi];unfold uU at ho;cases hd:o.dst with
 |none=>rfl
 |some t=>rw[hd]at ho;have:=JP ho;simp only[iH,Pn];rw[Pm (by omega)]
def kD(E:Env)(np:Nat)(b0:Nat->Prop)(β:bd)(st:St)(w:World)(a:Act)(s:List Sh)(k:List It)(n:Nat)(r:eU s):Exit->Act->World->Prop
 |.normal,a',w'=>∃st' n',n'<=n/\eI E n' s k st'=some r/\st'.f=st.f/\Kept np a a'/\jE b0 β st st' w w' a'.tmps
 |_,_,_=>False
theorem D7{P:Program}{E:Env}(hA:iw P E){s:List Sh}{all:Array Oper}{np:Nat}(hdst:∀(i:Nat) o,all[i]?=some o->uU np o=true){k:List It}{r:eU s}:∀(l:List Oper) (i n:Nat) (β:bd) (st:St) (a:Act) (w:World) (β0:bd) (st0:St) (w0:World) (a0:Act) (n0:Nat),
  all.toList.drop i=l->eI E n s (.ops all l::k) st=some r->n<=n0->(∀m,m<n0->fP P E (eo E (eI E m)))->Rel b0 β st w a.tmps ->
  (∀b,dd β st.ob b->dd β0 st0.ob b\/w0.heap.size<=b)->bM (dd β0 st0.ob) w0 w->st.f=st0.f->Kept np a0 a ->
  wpOps P all (kD E np b0 β0 st0 w0 a0 s k n0 r) (List.range' i l.length) a w
 |[],i,n,β,st,a,w,β0,st0,w0,a0,n0,hl,hr,hn,hC,hS,ho,hs,hf,hd=>by
  cases n with
  |zero=>cases hr
  |succ n=>have hr':eI E n s k st=some r:=hr;show kD E np b0 β0 st0 w0 a0 s k n0 r .normal a w;exact⟨st,n,by omega,hr',hf,hd,jE.trans hS ho hs (jE.refl hS)⟩
 |o::l,i,n,β,st,a,w,β0,st0,w0,a0,n0,hl,hr,hn,hC,hS,ho,hs,hf,hd=>by
  cases n with
  |zero=>cases hr
  |succ n=>
   have hi:all[i]?=some o:=by have:=mM (fun x:List Oper=>x[0]?) hl;simpa using this
   have hl':all.toList.drop (i+1)=l:=by rw[<-List.drop_drop,hl];rfl
   have hr':l8 E (eo E (eI E n)) all o st (fun st=>eI E n s (.ops all l::k) st)=some r:=hr;obtain⟨st1,h1,h2,h3⟩:=rY hA (hC n (by omega)) hS hr';show wpOps P all _ (i::List.range' (i+1) l.length) a w;rw[wpOps_cons];unfold wpOp;rw[hi];dsimp only;have hgo:=h3 (wpOps P all (kD E np b0 β0 st0 w0 a0 s k n0 r) (List.range' (i+1) l.length)) (kD E np b0 β0 st0 w0 a0 s k n0 r) fun v w' hg=>by obtain⟨⟨β1,g1,g2⟩,g3⟩:=hg;refine D7 hA hdst l (i+1) n β1 st1 (a.put o.dst v) w' β0 st0 w0 a0 n0 hl' h1 (by omega) hC (by rw[nj];exact g1) (fun b hb=>?_) ?_ (h2.trans hf) (hd.put (hdst _ _ hi) v);rcases g2 b hb with h|h;exact ho b h;exact .inr (kz hs.1 h);exact hs.trans g3 fun b hlt hb=>(ho b hb).resolve_right (by omega)
   split;rename_i hw;rw[aa hw]at hgo;exact .inl hgo;rename_i hw;rw[ab hw]at hgo;exact hgo
theorem E1{P:Program}{E:Env}(hA:iw P E){s:List Sh}{ops:Array Oper}{np:Nat}(hdst:∀(i:Nat) o,ops[i]?=some o->uU np o=true){k:List It}{r:eU s}{id n:Nat}{st:St}{a:Act}(hr:eI E n s (.ops ops ops.toList::k) st=some r)(hC:∀m,m<n->fP P E (eo E (eI E m)))(hS:Rel b0 β st w a.tmps):
  (Code.region id ops false).wp P (kD E np b0 β st w a s k n r) a w:=by
 refine wp_region ?_;have:=D7 hA hdst ops.toList 0 n β st a w β st w a n (by simp) hr (dD _) hC hS (fun b hb=>.inl hb) (bM.refl _ _) rfl (Kept.refl _ _)
 rwa [OT,<-List.range_eq_range']at this
end
end
section
section
variable {b0:Nat->Prop} {β:bd} {ob:cW} {w:World}
def JC(l:List (Nat×Nat)):List (Nat×Nat):=l.map fun p=>(p.2,p.1)
theorem IG{α:Type}:∀{l:List (Nat×α)} {k:Nat},k∉l.map (·.1)->al l k=none
 |[],_,_=>rfl
 |(i,x)::r,k,h=>by simp only[xe,eR,not_or]at h;rw[cu,ab (Ij h.1)];exact IG h.2
theorem qa{α:Type}:∀{l:List (Nat×α)} {k:Nat} {x:α},(l.map (·.1)).Nodup->(k,x)∈l->al l k=some x
 |(i,y)::r,k,x,hn,h=>by
  rw[xe,zI]at hn;rw[cu];rcases eR.1 h with h|h;cases h;simp;have:i≠k:=fun e=>by subst e;exact hn.1 (jC.2 ⟨_,h,rfl⟩)
  rw[ab this];exact qa hn.2 h
def Pd(ks:List (Nat×Nat)):Ob->Ob
 |.box cs=>.box (cs.map (yz ks))
 |o=>o
theorem pk(ks:List (Nat×Nat)):∀{l:List (Nat×Nat)} {j:Nat},j∉l.map (·.2)->al (nm ob ks l) j=none
 |[],_,_=>rfl
 |(k,i)::r,j,h=>by simp only[xe,eR,not_or]at h;unfold nm;split;rw[cu,ab (Ij h.1)];exact pk ks h.2;rw[cu,ab (Ij h.1)];exact pk ks h.2;exact pk ks h.2
theorem pn(ks:List (Nat×Nat)):∀{l:List (Nat×Nat)},(l.map (·.2)).Nodup->∀{k j:Nat},(k,j)∈l->al (nm ob ks l) j=(al ob k).map (Pd ks)
 |(k',i)::r,hn,k,j,h=>by
  rw[xe,zI]at hn;rcases eR.1 h with h|h
  .cases h;unfold nm;split;rename_i cs hcs;rw[cu,aa rfl,hcs];rfl
   .rename_i o hnb ho;rw[cu,aa rfl,ho];cases o with
    |row τ l=>rfl
    |box cs=>exact absurd rfl (hnb cs)
   rename_i ho;rw[ho,pk ks hn.1];rfl
  have hne:i≠j:=fun e=>by subst e;exact hn.1 (jC.2 ⟨_,h,rfl⟩)
  unfold nm;split;rw[cu,ab hne];exact pn ks hn.2 h;rw[cu,ab hne];exact pn ks hn.2 h;exact pn ks hn.2 h
theorem qI(ks:List (Nat×Nat)){l:List (Nat×Nat)}(hn:(l.map (·.2)).Nodup){j:Nat}{x:Ob}(h:al (nm ob ks l) j=some x):∃k y,(k,j)∈l/\al ob k=some y/\x=Pd ks y:=by by_cases hj:j∈l.map (·.2);obtain⟨⟨k,j'⟩,hm,he⟩:=jC.1 hj;simp only at he;subst he;rw[pn ks hn hm,LV]at h;obtain⟨y,h1,h2⟩:=h;exact⟨k,y,hm,h1,h2.symm⟩;rw[pk ks hj]at h;cases h
theorem Mo(ks:List (Nat×Nat)):DN (E0 ks):=by
 intro a ha;cases a<;>first
  |exact .inl rfl
  |(simp only[E0];split<;>exact .inl rfl)
  |(simp[lW]at ha;done)
theorem Ar(live:Ln):∀(l:List AV) (n i:Nat),(uS live l n).getD i .any=l.getD i .any\/(uS live l n).getD i .any = .any
 |[],n,i=>.inl rfl
 |v::r,n,0=>by
  simp only[uS];cases live.any (Nat.beq n) with
  |true=>exact .inl rfl
  |false=>exact .inr rfl
 |v::r,n,i+1=>by have:=Ar live r (n+1) i;simpa[uS]using this
theorem Eh(live:Ln):∀(l:List AV) (n:Nat),(uS live l n).length=l.length
 |[],n=>rfl
 |v::r,n=>by simp[uS,Eh live r (n+1)]
theorem NX{sl:List AV}{tmps:Array Value}(h:SR b0 β ob w sl tmps F0)(ks:List (Nat×Nat))(h1:(ks.map (·.1)).Nodup)(h2:(ks.map (·.2)).Nodup){sl':List AV}(hlen:sl'.length=sl.length)(hsl:∀i,sl'.getD i .any=sl.getD i .any\/sl'.getD i .any = .any):
  ∃β',SR b0 β' (nm ob ks ks) w (sl'.map (yz ks)) tmps F0/\(∀b,dd β' (nm ob ks ks) b->dd β ob b):=by
 let ρ:Nat->Nat:=fun j=>(al (JC ks) j).getD 0
 have hsw:((JC ks).map (·.1)).Nodup:=by unfold JC;rw[List.map_map];exact h2
 have hρ:∀{k j},(k,j)∈ks->ρ j=k:=by intro k j hm;have:al (JC ks) j=some k:=qa hsw (jC.2 ⟨(k,j),hm,rfl⟩);simp[ρ,this]
 refine⟨fun j=>β (ρ j),h.regroup (g:=E0 ks) ρ (fun j τ l hj=>?_) (fun j cs hj=>?_) (fun j1 j2 x1 x2 e1 e2 he=>?_) (fun b hb=>.inl hb) (fun b hb hb'=>?_) (fun hav a v ha=>?_) (by simpa using hlen) (fun i=>?_)⟩
 .obtain⟨k,y,hm,hy,hx⟩:=qI ks h2 hj;rw[hρ hm];cases y with
  |row σ m=>cases hx;exact⟨hy,rfl⟩
  |box cs=>cases hx
 .obtain⟨k,y,hm,hy,hx⟩:=qI ks h2 hj;rw[hρ hm];cases y with
  |row σ m=>cases hx
  |box cs0=>cases hx;exact⟨cs0,hy,rfl,rfl⟩
 obtain⟨k1,_,m1,_,_⟩:=qI ks h2 e1;obtain⟨k2,_,m2,_,_⟩:=qI ks h2 e2;rw[hρ m1,hρ m2]at he;subst he;have g1:=qa h1 m1;have g2:=qa h1 m2;rw[g1]at g2;exact uR g2;obtain⟨j,x,o,c,hj,hbj⟩:=hb;obtain⟨k,y,hm,hy,_⟩:=qI ks h2 hj;simp only[hρ hm]at hbj;exact(h.obs.lt b ⟨k,y,o,c,hy,hbj⟩).2 hb'
 .have keep:eO β ob w (Av b0 (fun j=>β (ρ j)) (nm ob ks ks) F0) a v []:=fO (bad0:=fun _=>False) (bM.refl _ w) (fun _ _ x=>x.elim) hav (fun _ _ x=>x) ha;have at_:∀{k j:Nat},al ks k=some j->al (nm ob ks ks) j=(al ob k).map (Pd ks)/\ρ j=k:=by intro k j hk;have hm:=lJ hk;exact⟨pn ks h2 hm,hρ hm⟩
  cases a with
  |ow k=>simp only[E0];split;rename_i j hk;obtain⟨g1,g2⟩:=at_ hk;obtain⟨e,τ,l,hl,hs⟩:=keep;exact⟨e,τ,l,by rw[g1,hl];rfl,hs.ext (by rw[g2])⟩;rfl
  |own k off len=>simp only[E0];split;rename_i j hk;obtain⟨g1,g2⟩:=at_ hk;obtain⟨e,τ,l,hl,hol,hs⟩:=keep;exact⟨e,τ,l,by rw[g1,hl];rfl,hol,hs.ext (by rw[g2])⟩;rfl
  |ptr k off=>simp only[E0];split;rename_i j hk;obtain⟨g1,g2⟩:=at_ hk;obtain⟨e,b,c,cs,hb,hl,hv⟩:=keep;exact⟨e,b,c,_,by simp only[g2];exact hb,by rw[g1,hl];rfl,hv⟩;rfl
  |ap k n=>simp only[E0];split;rename_i j hk;obtain⟨g1,g2⟩:=at_ hk;obtain⟨e,τ,l,b,c,hl,hn,hb,hv⟩:=keep;exact⟨e,τ,l,b,c,by rw[g1,hl];rfl,hn,by simp only[g2];exact hb,hv⟩;rfl
  |rptr k i off=>simp only[E0];split;rename_i j hk;obtain⟨g1,g2⟩:=at_ hk;obtain⟨e,τ,l,b,o,c,hl,hb,hv⟩:=keep;exact⟨e,τ,l,b,o,c,by rw[g1,hl];rfl,by simp only[g2];exact hb,hv⟩;rfl
  |new τ l=>rfl
  |narr n τ l=>obtain⟨_,b,hb,_⟩:=ha;cases hb
  |agg cs=>exact ha.elim
  |tup vs=>exact ha.elim
  |fn f cs=>exact ha.elim
  |nbox cs=>exact ha.elim
  |_=>exact keep
 have hm:(sl'.map (yz ks)).getD i .any=yz ks (sl'.getD i .any):=getD_map rfl;rw[hm];rcases hsl i with hi|hi;rw[hi];exact .inl rfl;rw[hi];exact .inr rfl
theorem H7{st:St}{tmps:Array Value}(h:Rel b0 β st w tmps)(t:Nat):∃β',Rel b0 β' (Bw st t) w tmps/\(∀b,dd β' (Bw st t).ob b->dd β st.ob b)/\(Bw st t).f=st.f:=by
 have stay:∃β',Rel b0 β' st w tmps/\(∀b,dd β' st.ob b->dd β st.ob b)/\st.f=st.f:=⟨β,h,fun _ h=>h,rfl⟩;unfold Bw;split
 .rename_i key len hsl;split
  .rename_i τ l hrow;cases hτ:τ.hasList with
   |true=>exact stay
   |false=>
    rw[uP];have hs:=h.sr.slot t;rw[hsl]at hs;obtain⟨_,τ',l',hl',hol,hsv⟩:=hs;rw[hrow]at hl';cases hl';obtain⟨bs,hnew,hnd,hbs⟩:=EW (h.sr.obs.row key τ l hrow) hol hsv;have hbk:∀b∈bs,dm β st.ob key b:=fun b hb=>by obtain⟨o,c,hβ⟩:=hbs b hb;exact⟨_,o,c,hrow,hβ⟩
    have hB:∀b,dm β st.ob key b->dd β st.ob b:=fun b ⟨x,o,c,h1,h2⟩=>⟨key,x,o,c,h1,h2⟩;obtain⟨hK,hKo⟩:=h.sr.kill key;have hnn:uV (st.sl.map (pv key)):=h.nn.lift (wX key) (vL key);have hW:=hK.world' (w':=w) (bad0:=fun _=>False) (b0':=fun b=>b0 b\/b∈bs) (bM.refl _ w) (fun b _ h=>h.elim) (fun b hlt h=>by
     rcases h with h|h;exact .inl h;exact .inr (hbk b h)) (fun b hb=>by
     rcases hb with hb|hb;exact h.sr.b0lt b hb;exact(h.sr.obs.lt b (hB b (hbk b hb))).1)
    have hl:lC b0 β (nu (pv key) (fW st.ob key)) w bs:=⟨hnd,fun b hb=>⟨(h.sr.obs.lt b (hB b (hbk b hb))).1,(h.sr.obs.lt b (hB b (hbk b hb))).2,fun ho=>(hK.obs.lt b ho).2 (.inr (hbk b hb))⟩⟩;have hv:=hnew (fun b=>b0 b\/dd β (nu (pv key) (fW st.ob key)) b\/b∈bs) (fun b _ hb=>by rcases hb with hb|hb|hb;exact .inl hb;exact .inr (.inl (hKo b hb));exact .inr (.inl (hB b (hbk b hb))))
    obtain⟨β',h1,h2,h3⟩:=hW.putL (key:=keyOf t) (v:=tmps.getD t undef) (av:=.new τ (cN l 0 len)) hl hv t;have hset:tmps.setIfInBounds t (tmps.getD t undef)=tmps:=by apply Array.ext;simp;intro i h1 h2;rw[Array.getElem_setIfInBounds];split;rename_i he;subst he;simp[Array.getD,h2];rfl
    rw[hset]at h1;refine⟨β',⟨h1,ou hnn h2⟩,fun b hb=>?_,rfl⟩;rcases h3 b hb with h4|h4;exact hKo b h4;exact hB b (hbk b h4)
  exact stay
 exact stay
theorem vg(live:Ln):∀(l:Ln) {β:bd} {st:St} {tmps:Array Value},Rel b0 β st w tmps->∃β',Rel b0 β' (yo live st l) w tmps/\(∀b,dd β' (yo live st l).ob b->dd β st.ob b)/\(yo live st l).f=st.f
 |[],β,st,tmps,h=>⟨β,h,fun _ h=>h,rfl⟩
 |t::r,β,st,tmps,h=>by
  unfold yo;cases Md live st t with
  |false=>exact vg live r h
  |true=>obtain⟨β1,h1,h2,h3⟩:=H7 h t;obtain⟨β2,g1,g2,g3⟩:=vg live r h1;exact⟨β2,g1,fun b hb=>h2 b (g2 b hb),g3.trans h3⟩
theorem Hu{E:Env}{β0:bd}{st:St}{tmps:Array Value}(h:Rel b0 β0 st w tmps)(key:Nat):∃β',Rel b0 β' (canon E key st) w tmps/\(∀b,dd β' (canon E key st).ob b->dd β0 st.ob b)/\(canon E key st).f=st.f:=by
 unfold canon;split;exact⟨β0,h,fun _ h=>h,rfl⟩;rename_i live _;have main0:∀{β:bd} {st1:St},Rel b0 β st1 w tmps->(∀b,dd β st1.ob b->dd β0 st.ob b)->st1.f=st.f->∃β',Rel b0 β' (canon.canonK live st1) w tmps/\(∀b,dd β' (canon.canonK live st1).ob b->dd β0 st.ob b)/\(canon.canonK live st1).f=st.f:=by
  intro β st1 h1 ho hf;unfold canon.canonK;dsimp only;generalize hks:yJ _ 0=ks;cases hc:qK (ks.map (·.1))&&qK (ks.map (·.2)) with
  |false=>exact⟨β,h1,ho,hf⟩
  |true=>simp only[eJ]at hc;obtain⟨β',g1,g2⟩:=NX h1.sr ks (mN hc.1) (mN hc.2) (sl':=uS live st1.sl 0) (Eh live _ 0) (Ar live st1.sl 0);refine⟨β',⟨g1,fun i=>?_⟩,fun b hb=>ho b (g2 b hb),hf⟩;have hm:((uS live st1.sl 0).map (yz ks)).getD i .any=yz ks ((uS live st1.sl 0).getD i .any):=getD_map rfl;show cR (((uS live st1.sl 0).map (yz ks)).getD i .any)=false;rw[hm];rcases Ar live st1.sl 0 i with hi|hi;rw[hi];exact(Mo ks).new2 (h1.nn i);rw[hi];rfl
 have main:∀{st1:St},Rel b0 β0 st1 w tmps->(∀b,dd β0 st1.ob b->dd β0 st.ob b)->st1.f=st.f->∃β',Rel b0 β' (canon.canonK live (yo live st1 live)) w tmps/\(∀b,dd β' (canon.canonK live (yo live st1 live)).ob b->dd β0 st.ob b)/\(canon.canonK live (yo live st1 live)).f=st.f:=by intro st1 h1 ho hf;obtain⟨β1,g1,g2,g3⟩:=vg live live h1;exact main0 g1 (fun b hb=>ho b (g2 b hb)) (g3.trans hf)
 dsimp only;split;rename_i l _;obtain⟨g1,g2,g3⟩:=vV l h;exact main g1 g2 g3;exact main h (fun _ h=>h) rfl
end
end
section
def Nu(P:Program)(E:Env):Prop:=
 ∀(np:Nat) (s:List Sh) (ops:Array Oper) (m:Nat) (k:List It) (r:eU s) (id n:Nat) (st:St) (a:Act) (w:World) (b0:Nat->Prop) (β:bd),Hq ops m=true->(∀(i:Nat) o,ops[i]?=some o->uU np o=true) ->
  eI E n s (.aops ops (ops.toList.take m) (ops.toList.take m) :: .ops ops (ops.toList.drop m)::k) st=some r->(∀m,m<n->fP P E (eo E (eI E m)))->Rel b0 β st w a.tmps ->
  (Code.region id ops true).wp P (kD E np b0 β st w a s k n r) a w
def Nt(P:Program)(E:Env):Prop:=
 ∀(np:Nat) (s:List Sh) (ops:Array Oper) (k:List It) (r:eU s) (id n:Nat) (st:St) (a:Act) (w:World) (b0:Nat->Prop) (β:bd),Region.noSelect ops=true->(∀(i:Nat) o,ops[i]?=some o->uU np o=true) ->
  explore E (eo E (eI E n)) ops (eI E n s k) ops.size (Array.replicate ops.size false) st=some r->fP P E (eo E (eI E n))->Rel b0 β st w a.tmps ->
  (Code.region id ops true).wp P (kD E np b0 β st w a s k n r) a w
inductive pR:List It->List Item->Prop
 |nil:pR [] []
 |code {c k k'}:pR k k'->pR (.code c::k) (.code c::k')
 |inLoop {c k k'}:pR k k'->pR (.inLoop c::k) (.inLoop c::k')
 |loopAt {c k k'}:pR k k'->pR (.loopAt c::k) (.code c :: .inLoop c::k')
 |inBlock {id k k'}:pR k k'->pR (.inBlock id::k) (.inBlock id::k')
theorem pR.exit{id:Nat}:∀{k:List It} {k':List Item} {k2:List It},pR k k'->k9 id k=some k2->∃k2',exitTo id k'=some k2'/\pR k2 k2':=by
 intro k k' k2 h
 induction h with
 |nil=>intro h;simp[k9]at h
 |code _ ih=>intro h;obtain⟨k2',h1,h2⟩:=ih (by simpa[k9]using h);exact⟨k2',by simpa[exitTo]using h1,h2⟩
 |inLoop _ ih=>intro h;obtain⟨k2',h1,h2⟩:=ih (by simpa[k9]using h);exact⟨k2',by simpa[exitTo]using h1,h2⟩
 |loopAt _ ih=>intro h;obtain⟨k2',h1,h2⟩:=ih (by simpa[k9]using h);exact⟨k2',by simpa[exitTo]using h1,h2⟩
 | @inBlock i k k' hk ih=>
  intro h;simp only[k9]at h;cases hb:Nat.beq i id with
  |true=>rw[hb]at h;have:=xN hb;subst this;simp only[pD,s8]at h;subst h;exact⟨k',by simp[exitTo],hk⟩
  |false=>rw[hb]at h;obtain⟨k2',h1,h2⟩:=ih h;exact⟨k2',by simp[exitTo,iC hb,h1],h2⟩
section
variable {b0:Nat->Prop} {β:bd} {w:World}
def vM(np:Nat):It->Bool
 |.code c|.inLoop c|.loopAt c=>iW np c
 |_=>true
theorem rn{id:Nat}:∀{k k2:List It},k9 id k=some k2->∀i∈k2,i∈k
 |[],k2,h=>by simp[k9]at h
 |.inBlock j::k,k2,h=>by
  simp only[k9]at h;cases hb:Nat.beq j id with
  |true=>rw[hb]at h;simp only[pD,s8]at h;subst h;intro i hi;simp[hi]
  |false=>rw[hb]at h;intro i hi;exact jI _ (rn h i hi)
 |.code c::k,k2,h=>fun i hi=>jI _ (rn (by simpa[k9]using h) i hi)
 |.inLoop c::k,k2,h=>fun i hi=>jI _ (rn (by simpa[k9]using h) i hi)
 |.loopAt c::k,k2,h=>fun i hi=>jI _ (rn (by simpa[k9]using h) i hi)
 |.ops a b::k,k2,h=>fun i hi=>jI _ (rn (by simpa[k9]using h) i hi)
 |.aops a b c::k,k2,h=>fun i hi=>jI _ (rn (by simpa[k9]using h) i hi)
def Ends(P:Program)(E:Env)(np:Nat)(b0:Nat->Prop)(β:bd)(st:St)(w:World)(a:Act)(b:Frame)(cs:List Frame)(t:List Item)(s:List Sh)(r:eU s):Prop:=
 ∃todo a' w' st',Steps P (lone (b.at a t) cs w) (lone { b.at a' todo with mode:=.returning } cs w')/\MY E s st'=some r/\st'.f=st.f/\Kept np a a'/\jE b0 β st st' w w' a'.tmps
theorem Ends.later{P:Program}{E:Env}{np:Nat}{st st1:St}{w1:World}{a a1:Act}{b:Frame}{cs:List Frame}{t t1:List Item}{s:List Sh}{r:eU s}{β1:bd}(hs:Steps P (lone (b.at a t) cs w) (lone (b.at a1 t1) cs w1))(hf:st1.f=st.f)
  (hR:Rel b0 β1 st1 w1 a1.tmps) (ho:∀y,dd β1 st1.ob y->dd β st.ob y\/w.heap.size<=y) (hsm:bM (dd β st.ob) w w1) (hk:Kept np a a1) (h:Ends P E np b0 β1 st1 w1 a1 b cs t1 s r):Ends P E np b0 β st w a b cs t s r:=by
 obtain⟨todo,a',w',st',h1,h2,h3,h4,h5⟩:=h;exact⟨todo,a',w',st',hs.trans h1,h2,h3.trans hf,hk.trans h4,jE.trans hR ho hsm h5⟩
theorem Sb{P:Program}{E:Env}(hA:iw P E)(hD:Nu P E)(hX:Nt P E){np:Nat}:∀(n:Nat),(∀m,m<n->fP P E (eo E (eI E m)))->∀(s:List Sh) (t:List It) (st:St) (r:eU s),eI E n s t st=some r ->
  ∀(t':List Item) (β:bd) (a:Act) (w:World) (b:Frame) (cs:List Frame),pR t t'->(∀i∈t,vM np i=true)->Rel b0 β st w a.tmps->Ends P E np b0 β st w a b cs t' s r:=by
 intro n
 induction n using Nat.strongRecOn with
 |ind n ih=>
  intro hC s t st r hr t' β a w b cs ht hok hS;cases n with
  |zero=>cases hr
  |succ n=>
   have go:∀{t1:List It} {t1':List Item} {a:Act} {w:World},eI E n s t1 st=some r->Steps P (lone (b.at a t') cs w) (lone (b.at a t1') cs w)->pR t1 t1'->(∀i∈t1,vM np i=true)->Rel b0 β st w a.tmps->Ends P E np b0 β st w a b cs t' s r:=by intro t1 t1' a w hr1 hst ht1 hok1 hS;exact Ends.later hst rfl hS (fun y hy=>.inl hy) (bM.refl _ _) (Kept.refl _ _) (ih n (by omega) (fun m hm=>hC m (by omega)) s t1 st r hr1 t1' β a w b cs ht1 hok1 hS)
   have fin:MY E s st=some r->Steps P (lone (b.at a t') cs w) (lone { b.at a t' with mode:=.returning } cs w)->Ends P E np b0 β st w a b cs t' s r:=
    fun h1 h2=>⟨t',a,w,st,h2,h1,rfl,Kept.refl _ _,jE.refl hS⟩
   have loopGo:∀{c:Code} {k:List It} {k':List Item},eI E n s (.loopAt c::k) (canon E (mO c) st)=some r->pR k k'->iW np c=true->(∀i∈k,vM np i=true)->step P (lone (b.at a t') cs w) = .next (lone (b.at a (.code c :: .inLoop c::k')) cs w)->Ends P E np b0 β st w a b cs t' s r:=by intro c k k' hr1 hk hc1 hk1 hst;obtain⟨β1,h1,h2,h3⟩:=Hu (E:=E) hS (mO c);exact Ends.later (.one hst) h3 h1 (fun y hy=>.inl (h2 y hy)) (bM.refl _ _) (Kept.refl _ _) (ih n (by omega) (fun m hm=>hC m (by omega)) s _ _ r hr1 _ β1 a w b cs (.loopAt hk) (fun i hi=>(eR.1 hi).elim (fun e=>by subst e;exact hc1) (hk1 i)) h1)
   have region:∀{id:Nat} {ops:Array Oper} {dr:Bool} {k:List It} {k':List Item},pR k k'->(∀i∈k,vM np i=true)->t' = .code (.region id ops dr)::k'->(Code.region id ops dr).wp P (kD E np b0 β st w a s k n r) a w->Ends P E np b0 β st w a b cs t' s r:=by
    intro id ops dr k k' hk hk1 ht' hwp;subst ht';obtain⟨e,a',w',hq,harr⟩:=hwp b k' cs;cases e with
    |normal=>obtain⟨st',n',hn',hr',hf',hd',hg⟩:=hq;obtain⟨⟨β1,g1,g2⟩,g3⟩:=hg;exact Ends.later harr hf' g1 g2 g3 hd' (ih n' (by omega) (fun m hm=>hC m (by omega)) s k st' r hr' k' β1 a' w' b cs hk hk1 g1)
    |_=>exact hq.elim
   rw[eI]at hr;have two:∀{x y:It} {k:List It},vM np x=true->vM np y=true->(∀i∈k,vM np i=true)->∀i∈x::y::k,vM np i=true:=by intro x y k h1 h2 h3 i hi;rcases eR.1 hi with rfl|hi;exact h1;rcases eR.1 hi with rfl|hi;exact h2;exact h3 i hi
   have one:∀{x:It} {k:List It},vM np x=true->(∀i∈k,vM np i=true)->∀i∈x::k,vM np i=true:=by intro x k h1 h3 i hi;rcases eR.1 hi with rfl|hi;exact h1;exact h3 i hi
   cases ht with
   |nil=>exact fin hr (.one step_end)
   | @loopAt c k k' hk=>have hc:=hok (.loopAt c) (by simp);exact go (t1:=.code c :: .inLoop c::k) hr (.refl _ _) (.code (.inLoop hk)) (two hc hc fun i hi=>hok i (by simp[hi])) hS
   | @inBlock id k k' hk=>exact go (t1:=k) hr (.one step_inBlock) hk (fun i hi=>hok i (by simp[hi])) hS
   | @inLoop c k k' hk=>exact loopGo hr hk (hok (.inLoop c) (by simp)) (fun i hi=>hok i (by simp[hi])) step_inLoop
   | @code c k k' hk=>
    have hc:=hok (.code c) (by simp);have hkk:∀i∈k,vM np i=true:=fun i hi=>hok i (by simp[hi]);cases c with
    |ret=>exact fin hr (.one step_ret)
    |skip=>exact go (t1:=k) hr (.one step_skip) hk hkk hS
    |seq x y=>simp only[vM,iW,eJ]at hc;exact go (t1:=.code x :: .code y::k) hr (.one step_seq) (.code (.code hk)) (two hc.1 hc.2 hkk) hS
    |block id c=>exact go (t1:=.code c :: .inBlock id::k) hr (.one step_block) (.code (.inBlock hk)) (two (by simpa[vM,iW]using hc) rfl hkk) hS
    |loop c=>exact loopGo hr hk (by simpa[vM,iW]using hc) hkk step_loop
    |cond c x y=>
     simp only[vM,iW,eJ]at hc;obtain⟨v,hv,hr1⟩:=yd (show xr (bk st.sl c) (fun b=>bif b then eI E n s (.code x::k) st else eI E n s (.code y::k) st)=some r from hr);have hcv:=iR hS c;rw[hv]at hcv;obtain⟨hcv,_⟩:=iG hcv;cases v with
     |true=>exact go (t1:=.code x::k) hr1 (.one (step_cond hcv)) (.code hk) (one hc.1 hkk) hS
     |false=>exact go (t1:=.code y::k) hr1 (.one (step_cond hcv)) (.code hk) (one hc.2 hkk) hS
    |exit id=>simp only[ql]at hr;split at hr;rename_i k2 hk2;obtain⟨k2',h1,h2⟩:=hk.exit hk2;exact go (t1:=k2) hr (.one (step_exit h1)) h2 (fun i hi=>hkk i (rn hk2 i hi)) hS;cases hr
    |region id ops dr=>
     have hdst:∀(i:Nat) o,ops[i]?=some o->uU np o=true:=fun i o ho=>by simp only[vM,iW]at hc;exact uQ.1 hc o (by simpa using Array.mem_of_getElem? ho)
     simp only[ql]at hr;cases dr with
     |false=>exact region hk hkk rfl (E1 hA hdst hr (fun m hm=>hC m (by omega)) hS)
     |true=>
      simp only[pD]at hr;split at hr
      .rename_i m hm;cases hb:Nat.ble 1000 m with
       |true=>rw[hb]at hr;simp only[pD]at hr;obtain⟨hns,hr1⟩:=bO hr;exact region hk hkk rfl (hX np s ops k r id n st a w b0 β hns hdst hr1 (hC n (by omega)) hS)
       |false=>
       rw[hb]at hr;simp only[uP]at hr;obtain⟨hcut,hr1⟩:=bO hr;exact region hk hkk rfl (hD np s ops m k r id n st a w b0 β hcut hdst hr1 (fun m hm=>hC m (by omega)) hS)
      cases hr
    |_=>cases hr
end
end
section
section
variable {E:Env} {C:bC} {ob:cW} {R:Type}
theorem GM{ρ ρ':Operand->AV}(o:Oper)(h:∀x∈o.op.operands,ρ x=ρ' x)(k:AV->Option R):ec E C ob ρ o k=ec E C ob ρ' o k:=by
 obtain⟨dst,op,type,pos,after,guard⟩:=o;have pairs:∀ps:Array (Nat×Operand),(∀x∈ps.toList.map (·.2),ρ x=ρ' x) ->
   (ps.toList.map fun p=>(p.1,ρ p.2))=(ps.toList.map fun p=>(p.1,ρ' p.2)):=fun ps hp=>
  PU fun p hm=>by simp only[hp p.2 (jC.2 ⟨p,hm,rfl⟩)]
 cases op<;>simp only[Op.operands]at h<;>simp only[ec]
 case build t ps=>rw[pairs ps fun x hx=>h x (by simpa using hx)]
 case buildSlice t n ps=>rw[pairs ps fun x hx=>h x (by simpa using hx)]
 case makeFunc fn first captured=>
  have:captured.toList.map ρ=captured.toList.map ρ':=PU fun x hx=>h x (by simp at hx;simp[hx]);cases fn with
  |func f=>simp only[this]
  |_=>rfl
 case call c=>
  obtain⟨callee,args,ts⟩:=c;have hargs:args.toList.map ρ=args.toList.map ρ':=PU fun x hx=>h x (by simp at hx;simp[Call.operands,hx]);simp only[hargs];cases callee with
  |value f=>have hf:ρ f=ρ' f:=h f (by simp[Call.operands]);simp only[hf]
  |_=>rfl
 case slice t x lo hi mx=>cases lo<;>cases hi<;>cases mx<;>simp_all
 all_goals (first|rfl|(simp_all;done))
def uN(ops:Array Oper)(sl:List AV)(o:Oper):Option Bool:=
 match o.guard with
 |none=>some true
 |some (j,w)=>match(ops[j]?).bind (·.dst) with
  |some t=>match sl.getD t .any with
   |.d .bool b=>some (bif b then w else !w)
   |.non=>some false
   |_=>none
  |none=>none
theorem NQ{ops:Array Oper}{sl:List AV}{o:Oper}{k:Bool->List AV->Option R}{r:R}(h:rU ops sl o k=some r):∃b,uN ops sl o=some b/\k b sl=some r:=by
 unfold rU at h;unfold uN;split at h;rename_i hg;exact⟨true,by rw[hg],h⟩
 .rename_i j wt hg;split at h
  .rename_i t ht;split at h
   .rename_i b hb;have hlt:t<sl.length:=JE (by rw[hb];simp);refine⟨bif b then wt else !wt,by rw[hg];simp only[ht,hb],?_⟩;cases b with
    |true=>simp only[pD]at h ⊢;rw[wO hb hlt]at h;exact h
    |false=>simp only[uP]at h ⊢;rw[wO hb hlt]at h;exact h
   rename_i hb;exact⟨false,by rw[hg];simp only[ht,hb],h⟩;cases h
  cases h
theorem Gg{ops:Array Oper}{sl sl':List AV}{o:Oper}{b:Bool}(h:uN ops sl o=some b)
  (hs:∀g w t,o.guard=some (g,w)->(ops[g]?).bind (·.dst)=some t->cR (sl.getD t .any)=false->sl'.getD t .any=sl.getD t .any):uN ops sl' o=some b:=by
 unfold uN at h ⊢;split at h;exact h
 .rename_i j wt hg;split at h
  .rename_i t ht
   try simp only[ht]
   split at h;rename_i c hb;have:=hs j wt t hg ht (by rw[hb];rfl);rw[this,hb];exact h;rename_i hb;have:=hs j wt t hg ht (by rw[hb];rfl);rw[this,hb];exact h;cases h
  cases h
theorem Gf{b0:Nat->Prop}{β:bd}{w:World}{f:Nat->Ln}{sl:List AV}{tmps:Array Value}(hS:SR b0 β ob w sl tmps f){ops:Array Oper}{o:Oper}{b:Bool}(h:uN ops sl o=some b):
  Region.wanted o (yielded ops tmps)=b:=by
 have hk:rU ops sl o (fun b _=>some b)=some b:=by unfold uN at h;unfold rU;split at h;rename_i hg;rw[hg];exact h;rename_i j wt hg;rw[hg];split at h;rename_i t ht;simp only[ht];split at h;rename_i c hb;rw[hb];cases c<;>exact h;rename_i hb;rw[hb];exact h;cases h;cases h
 have:=AP hS hk;exact uR this
theorem GX{α:Type}(p:α->Bool)(g:α->Nat)(i:Nat):∀(l:List α) (s:Nat),Nat.testBit (l.foldl (fun s e=>bif p e then Nat.lor s (g e) else s) s) i=(Nat.testBit s i||l.any fun e=>p e&&Nat.testBit (g e) i)
 |[],s=>by simp
 |e::l,s=>by
  rw[ue,GX p g i l];cases hp:p e with
  |true=>simp only[pD,NC,hp,yj];rw[show Nat.lor s (g e)=s|||g e from rfl,Nat.testBit_or,Bool.or_assoc]
  |false=>simp only[uP,NC,hp,GH,Ik]
def iP(acc:Ln)(o:Oper):Ln:=
 acc++[o.after.foldl (fun s e=>bif Region.binds .any e then Nat.lor s (Nat.lor (2^e.on) (acc.getD e.on 0)) else s) 0]
theorem J4:∀(l:List Oper) (acc:Ln),(l.foldl iP acc).length=acc.length+l.length
 |[],acc=>rfl
 |o::l,acc=>by rw[ue,J4 l];simp[iP];omega
theorem C0:∀(l:List Oper) (acc:Ln) (j:Nat),j<acc.length->(l.foldl iP acc).getD j 0=acc.getD j 0
 |[],acc,j,h=>rfl
 |o::l,acc,j,h=>by rw[ue,C0 l _ j (by simp[iP];omega)];simp only[iP,List.getD];rw[su h]
theorem Jf(l:List Oper):je l=l.foldl iP []:=rfl
theorem Jg{l:List Oper}{j:Nat}{o:Oper}(hj:l[j]?=some o)(he:∀e∈o.after,Region.binds .any e=true->e.on<j){i:Nat}(h:Nat.testBit ((je l).getD j 0) i=true):
  ∃e∈o.after,Region.binds .any e=true/\(i=e.on\/Nat.testBit ((je l).getD e.on 0) i=true):=by
 have hlt:j<l.length:=(tR.1 hj).1;have hsp:l=l.take j++o::l.drop (j+1):=by
  have:l.drop j=o::l.drop (j+1):=by rw[Qt hlt];congr 1;exact(tR.1 hj).2
  rw[<-this,N5]
 have hfold:je l=(l.drop (j+1)).foldl iP (iP ((l.take j).foldl iP []) o):=by
  rw[Jf]
  conv=>lhs;rw[hsp]
  rw[Pj,ue]
 have hpre:=J4 (l.take j) [];have hpl:((l.take j).foldl iP []).length=j:=by rw[hpre];simp;omega
 have hget:(je l).getD j 0=o.after.foldl (fun s e=>bif Region.binds .any e then Nat.lor s (Nat.lor (2^e.on) (((l.take j).foldl iP []).getD e.on 0)) else s) 0:=by rw[hfold,C0 _ _ _ (by simp[iP,hpl])];simp only[iP,List.getD];rw[vw (by omega)];simp[hpl]
 rw[hget,<-Array.foldl_toList,GX]at h;simp only[Nat.zero_testBit,Ik,nh,eJ]at h;obtain⟨e,hm,hb,ht⟩:=h;have hm':e∈o.after:=Array.mem_toList_iff.1 hm;refine⟨e,hm',hb,?_⟩;rw[show Nat.lor (2^e.on) (((l.take j).foldl iP []).getD e.on 0)=2^e.on|||((l.take j).foldl iP []).getD e.on 0 from rfl,Nat.testBit_or,Du]at ht;rcases ht with ht|ht;rw[Nat.testBit_two_pow]at ht;left;have:=uW ht;exact this.symm;right;rw[hfold,C0 _ _ _ (by simp[iP,hpl];have:=he e hm' hb;omega)];simp only[iP,List.getD]at ht ⊢;rw[su (by rw[hpl];exact he e hm' hb)];exact ht
theorem ky{l:List Oper}{S:Nat->Prop}(hE:∀j o,l[j]?=some o->∀e∈o.after,Region.binds .any e=true->e.on<j)
  (hS:∀j o,l[j]?=some o->S j->∀e∈o.after,Region.binds .any e=true->S e.on) :
  ∀(j i:Nat) (o:Oper),l[j]?=some o->(∀e∈o.after,Region.binds .any e=true->S e.on)->Nat.testBit ((je l).getD j 0) i=true->S i:=by
 intro j
 induction j using Nat.strongRecOn with
 |ind j ih=>intro i o hj hb ht;obtain⟨e,he,hbi,h⟩:=Jg hj (hE j o hj) ht;rcases h with rfl|h;exact hb e he hbi;have hlt:=hE j o hj e he hbi;have hl:e.on<l.length:=Nat.lt_trans hlt (tR.1 hj).1;exact ih e.on hlt i _ (c6 hl) (hS _ _ (c6 hl) (hb e he hbi)) h
end
end
section
def putL(sl:List AV)(p:Oper×AV):List AV:=
 match p.1.dst with
 |some t=>mZ sl t p.2
 |none=>sl
def kO(L:List Oper)(avs:List AV)(sl0:List AV)(j:Nat):List AV:=((L.zip avs).take j).foldl putL sl0
def wr(L:List Oper)(t:Nat):Option Nat:=L.findIdx? fun o=>decide (o.dst=some t)
def cL(L:List Oper)(S:Nat->Bool)(i:Nat):List Oper:=(L.zipIdx.filter fun p=>decide (i<p.2)&&S p.2).map (·.1)
def Bc(l:List Oper)(t:Nat)(v:AV):AV:=bif cR v then vd l t v else v
def BC(L:List Oper)(avs:List AV)(sl0:List AV)(S:Nat->Bool)(t:Nat):AV:=
 match wr L t with
 |some i=>bif S i then Bc (cL L S i) t (avs.getD i .any) else sl0.getD t .any
 |none=>sl0.getD t .any
def jP(L:List Oper)(avs:List AV)(sl0:List AV)(S:Nat->Bool):List AV:=(List.range sl0.length).map (BC L avs sl0 S)
def Js(L:List Oper):Prop:=∀(i j:Nat) (oi oj:Oper) (t:Nat),L[i]?=some oi->L[j]?=some oj->oi.dst=some t->oj.dst=some t->i=j
theorem JB:∀{L:List Oper},(L.filterMap (·.dst)).Nodup->Js L
 |[],_=>fun i j oi oj t h=>by simp at h
 |o::L,hn=>by
  intro i j oi oj t hi hj h1 h2;have hn':(L.filterMap (·.dst)).Nodup:=by rw[P9]at hn;split at hn;exact hn;exact(zI.1 hn).2
  have cross:∀(k:Nat) (ok:Oper),L[k]?=some ok->o.dst=some t->ok.dst=some t->False:=fun k ok hk h1 h2=>by rw[P9,h1]at hn;exact(zI.1 hn).1 (Qm.2 ⟨ok,NL hk,h2⟩)
  cases i with
  |zero=>
   cases j with
   |zero=>rfl
   |succ j=>simp only[Ip,s8]at hi;subst hi;exact(cross j oj (by simpa using hj) h1 h2).elim
  |succ i=>
   cases j with
   |zero=>simp only[Ip,s8]at hj;subst hj;exact(cross i oi (by simpa using hi) h2 h1).elim
   |succ j=>rw[JB hn' i j oi oj t (by simpa using hi) (by simpa using hj) h1 h2]
theorem Js.take{L:List Oper}(h:Js L)(m:Nat):Js (L.take m):=fun i j oi oj t hi hj h1 h2=>by rw[D5]at hi hj;split at hi;split at hj;exact h i j oi oj t hi hj h1 h2;cases hj;cases hi
theorem EC{L:List Oper}(hu:Js L){i t:Nat}{o:Oper}(hi:L[i]?=some o)(hd:o.dst=some t):wr L t=some i:=by
 obtain⟨hlt,hg⟩:=tR.1 hi;unfold wr;rw[RR];refine⟨hlt,by rw[hg];simp[hd],fun j hj hp=>?_⟩;have hjl:j<L.length:=by omega
 have:=hu j i _ o t (c6 hjl) hi (by simpa using hp) hd;omega
theorem rS{L:List Oper}{i t:Nat}(h:wr L t=some i):∃o,L[i]?=some o/\o.dst=some t:=by unfold wr at h;rw[RR]at h;obtain⟨hlt,hp,_⟩:=h;exact⟨_,c6 hlt,by simpa using hp⟩
theorem If{L:List Oper}{avs sl0:List AV}(hl:L.length=avs.length){j:Nat}{o:Oper}{v:AV}(ho:L[j]?=some o)(hv:avs[j]?=some v):kO L avs sl0 (j+1)=putL (kO L avs sl0 j) (o,v):=by
 unfold kO;have hz:(L.zip avs)[j]?=some (o,v):=by rw[List.getElem?_zip_eq_some];exact⟨ho,hv⟩
 rw[BP,hz];simp
theorem sX{L:List Oper}{avs sl0:List AV}(j:Nat):(kO L avs sl0 j).length=sl0.length:=by
 unfold kO;generalize (L.zip avs).take j=z
 induction z generalizing sl0 with
 |nil=>rfl
 |cons p z ih=>rw[ue,ih];unfold putL;split;exact kY;rfl
theorem wP{L:List Oper}{avs sl0:List AV}(hu:Js L)(hl:L.length=avs.length)(t:Nat)(ht:t<sl0.length):∀(j:Nat),j<=L.length ->
  (kO L avs sl0 j).getD t .any=match wr L t with
   |some i=>if i<j then avs.getD i .any else sl0.getD t .any
   |none=>sl0.getD t .any
 |0,_=>by have:kO L avs sl0 0=sl0:=rfl;rw[this];split;rw[ab (by omega)];rfl
 |j+1,hj=>by
  have hlt:j<L.length:=by omega
  have ho:=c6 hlt;have hv:avs[j]?=some (avs[j]'(by omega)):=c6 (by omega);rw[If hl ho hv];have ih:=wP hu hl t ht j (by omega);unfold putL;split
  .rename_i s hs;simp only at hs;rw[kx,sX];by_cases hts:t=s;subst hts;rw[aa ⟨rfl,ht⟩,EC hu ho hs];simp only[Nat.lt_add_one,sq,List.getD,hv,JL]
   .rw[ab (fun h=>hts h.1),ih];cases hw:wr L t with
    |none=>rfl
    |some i=>
     obtain⟨oi,h1,h2⟩:=rS hw;have hne:i≠j:=fun e=>by subst e;rw[ho]at h1;cases h1;rw[hs]at h2;exact hts (uR h2).symm
     simp only;by_cases h:i<j;rw[aa h,aa (by omega)];rw[ab h,ab (by omega)]
  .rename_i hs;simp only at hs;rw[ih];cases hw:wr L t with
   |none=>rfl
   |some i=>
    obtain⟨oi,h1,h2⟩:=rS hw;have hne:i≠j:=fun e=>by subst e;rw[ho]at h1;cases h1;rw[hs]at h2;cases h2
    simp only;by_cases h:i<j;rw[aa h,aa (by omega)];rw[ab h,ab (by omega)]
theorem gZ{L:List Oper}{avs sl0:List AV}{S:Nat->Bool}(t:Nat):(jP L avs sl0 S).getD t .any=if t<sl0.length then BC L avs sl0 S t else .any:=by unfold jP;split;rename_i h;simp[List.getD,h];rename_i h;simp[List.getD,h]
theorem jl{L:List Oper}{avs sl0:List AV}{S:Nat->Bool}:(jP L avs sl0 S).length=sl0.length:=by simp[jP]
theorem tl{L:List Oper}{S:Nat->Bool}{i:Nat}{o:Oper}:o∈cL L S i↔∃j,L[j]?=some o/\i<j/\S j=true:=by unfold cL;simp only[jC,p6,eJ,ir,Prod.exists,exists_and_right,exists_eq_right];constructor;rintro⟨j,h1,h2,h3⟩;exact⟨j,by rw[Rb]at h1;exact h1,h2,h3⟩;rintro⟨j,h1,h2,h3⟩;exact⟨j,by rw[Rb];exact h1,h2,h3⟩
theorem lk{l:List Oper}{t:Nat}:∀{vs:List AV} {i q:Nat},(Bd l t vs i)[q]?=(vs[q]?).map fun v=>bif l.any (fun o=>ng o t (i+q)) then ry v else v
 |[],i,q=>by simp[Bd]
 |v::vs,i,0=>by simp[Bd]
 |v::vs,i,q+1=>by simp only[Bd,List.getElem?_cons_succ];rw[lk];rw[show i+1+q=i+(q+1) from by omega]
theorem wv{l:List Oper}{t:Nat}:∀{vs:List AV} {i:Nat},(Bd l t vs i).length=vs.length
 |[],i=>rfl
 |v::vs,i=>by simp[Bd,wv]
def gM(o:Oper)(t:Nat):Bool:=(de o).any (Nat.beq t)
theorem yB{o:Oper}{t:Nat}(h:ie o t=true):gM o t=true:=by unfold ie at h;split at h;cases h;exact h
theorem BO{o:Oper}{t i:Nat}(h:ng o t i=true):gM o t=true:=by unfold ng at h;split at h;rename_i x j ho;simp only[eJ]at h;have:=xN h.1;subst this;unfold gM de;rw[ho];simp[Op.operands,Mu];cases h
theorem DZ{o:Oper}{t:Nat}(h:t∈de o):gM o t=true:=by unfold gM;rw[nh];exact⟨t,h,Mu t⟩
theorem qy{o:Oper}{t:Nat}(h:gM o t=true):t∈de o:=by unfold gM at h;rw[nh]at h;obtain⟨x,hx,hb⟩:=h;rw[xN hb];exact hx
theorem Hs{l:List Oper}{t:Nat}{v:AV}(h:∀o∈l,gM o t=false):vd l t v=v:=by
 have hN:(l.any fun o=>ie o t)=false:=by rw[HR];intro o ho hr;have:=yB hr;rw[h o ho]at this;cases this
 unfold vd;split;rename_i vs;rw[hN];simp only[uP,AV.tup.injEq];apply LQ;intro q;rw[lk];have hX:(l.any fun o=>ng o t (0+q))=false:=by rw[HR];intro o ho hr;have:=BO hr;rw[h o ho]at this;cases this
 rw[hX];simp;rw[hN];rfl
theorem Et{l:List Oper}{t:Nat}{v:AV}(h:∀o∈l,gM o t=false):Bc l t v=v:=by
 unfold Bc;cases cR v with
 |true=>exact Hs h
 |false=>rfl
theorem Mc{L:List Oper}{t:Nat}(h:tZ L t=true){i j:Nat}{oi oj:Oper}(hi:L[i]?=some oi)(hj:L[j]?=some oj)(hne:i≠j)(hri:gM oi t=true)(hrj:gM oj t=true):
  ∃x p y q,oi.op = .extract (.tmp x) p/\oj.op = .extract (.tmp y) q/\p≠q:=by
 unfold tZ at h;have key:∀(L:List Oper) (i j:Nat),i<j->L[i]?=some oi->L[j]?=some oj->∃l1 l2,(L.filter fun o=>(de o).any (Nat.beq t))=l1++oi::l2/\oj∈l2:=by
  intro L i j hij hi hj;obtain⟨hlt,hg⟩:=tR.1 hi;have hsp:L=L.take i++oi::L.drop (i+1):=by
   have:L.drop i=oi::L.drop (i+1):=by rw[Qt hlt,hg]
   rw[<-this,N5]
  refine⟨(L.take i).filter fun o=>(de o).any (Nat.beq t),(L.drop (i+1)).filter fun o=>(de o).any (Nat.beq t),?_,?_⟩
  .conv=>lhs;rw[hsp]
   rw[Q2,NB,aa (show((de oi).any (Nat.beq t))=true from hri)]
  rw[p6];refine⟨?_,hrj⟩;have:(L.drop (i+1))[j-(i+1)]?=some oj:=by rw[Ku,show i+1+(j-(i+1))=j from by omega];exact hj
  exact NL this
 have fin:∀{oa ob:Oper} {l1 l2:List Oper},(L.filter fun o=>(de o).any (Nat.beq t))=l1++oa::l2->ob∈l2->∃x p y q,oa.op = .extract (.tmp x) p/\ob.op = .extract (.tmp y) q/\p≠q:=by
  intro oa ob l1 l2 he hm;have h':((L.filter fun o=>(de o).any (Nat.beq t)).all (fun o=>match o.op with|.extract (.tmp _) _=>true|_=>false)&&qK ((L.filter fun o=>(de o).any (Nat.beq t)).map fun o=>match o.op with|.extract _ i=>i|_=>0))=true:=by
   split at h;rename_i h0;rw[h0]at he;simp at he
   .rename_i x h0;rw[h0]at he;cases l1 with
    |nil=>simp only[Ac,Im]at he;rw[<-he.2]at hm;cases hm
    |cons y l1=>simp at he
   exact h
  rw[eJ,uQ,he]at h';obtain⟨h1,h2⟩:=h';have ga:=h1 oa (by simp);have gb:=h1 ob (by simp[hm]);split at ga;rename_i x p ha;split at gb;rename_i y q hb;refine⟨x,p,y,q,ha,hb,fun e=>?_⟩;subst e;have hn:=mN h2;rw[Il,xe,D3]at hn;have hn2:=(zI.1 hn.2.1).1;apply hn2;rw[jC];exact⟨ob,hm,by rw[ha,hb]⟩;cases gb;cases ga
 rcases iQ i j with hlt|hge;obtain⟨l1,l2,he,hm⟩:=key L i j hlt hi hj;exact fin he hm;have hlt:j<i:=by omega
 obtain⟨hl,hg⟩:=tR.1 hj;have hsp:L=L.take j++oj::L.drop (j+1):=by
  have:L.drop j=oj::L.drop (j+1):=by rw[Qt hl,hg]
  rw[<-this,N5]
 have he:(L.filter fun o=>(de o).any (Nat.beq t))=(L.take j).filter (fun o=>(de o).any (Nat.beq t))++oj::(L.drop (j+1)).filter (fun o=>(de o).any (Nat.beq t)):=by
  conv=>lhs;rw[hsp]
  rw[Q2,NB,aa (show((de oj).any (Nat.beq t))=true from hrj)]
 have hm:oi∈(L.drop (j+1)).filter (fun o=>(de o).any (Nat.beq t)):=by
  rw[p6];refine⟨?_,hri⟩;have:(L.drop (j+1))[i-(j+1)]?=some oi:=by rw[Ku,show j+1+(i-(j+1))=i from by omega];exact hi
  exact NL this
 obtain⟨x,p,y,q,h1,h2,h3⟩:=fin he hm;exact⟨y,q,x,p,h2,h1,fun e=>h3 e.symm⟩
end
section
section
variable {b0:Nat->Prop} {β:bd} {ob:cW} {w:World} {f:Nat->Ln}
theorem SR.rearr{sl sl':List AV}{tmps tmps':Array Value}{f':Nat->Ln}(h:SR b0 β ob w sl tmps f)(hsize:tmps'.size=sl'.length)(hsl:∀i,c9 β ob w (Av b0 β ob f) (sl'.getD i .any) (tmps'.getD i undef) (f' i))
  (hsub:∀i b,b∈f' i->∃j,b∈f j) (hnd:∀i,(f' i).Nodup) (hdis:∀i j b,b∈f' i->b∈f' j->i=j):SR b0 β ob w sl' tmps' f':=by
 have hav:∀b,b<w.heap.size->Av b0 β ob f' b->Av b0 β ob f b:=by intro b _ hb;rcases hb with h1|h1|⟨i,h1⟩;exact .inl h1;exact .inr (.inl h1);obtain⟨j,hj⟩:=hsub i b h1;exact .inr (.inr ⟨j,hj⟩)
 exact⟨h.obs.mono (bad0:=fun _=>False) (bM.refl _ w) (fun _ _ x=>x.elim) hav (fun _ _ x=>x),fun i=>(hsl i).weaken hav,hsize,fun i b hb=>by obtain⟨j,hj⟩:=hsub i b hb;exact h.fresh j b hj,hnd,hdis,h.b0lt⟩
theorem MR{bad:Nat->Prop}{a:AV}{v:Value}{bs:Ln}(h:jf β ob w bad a v bs)(hn:cR a=false):bs=[]:=sv (zL h) hn
theorem Gj{bad:Nat->Prop}{q:Nat}{as:List AV}{vs:List Value}{bs:Ln}(h:Vs (jf β ob w bad) as vs bs):∀{q:Nat} {as':List AV} {a:AV},bs.Nodup->as[q]?=some a->as'.length=as.length->(∀p,p≠q->as'[p]?=as[p]?)->as'[q]?=some (ry a) ->
  ∃v b1 b2,vs[q]?=some v/\jf β ob w bad a v b1/\Vs (jf β ob w bad) as' vs b2/\b1.Nodup/\b2.Nodup/\(∀x∈b1,x∈bs)/\(∀x∈b2,x∈bs)/\(∀x∈b1,x∉b2):=by
 induction h with
 |nil=>intro q as' a _ hq;simp at hq
 | @cons c as v vs b bs h1 h2 ih=>
  intro q as' a hn hq hlen hp hq';cases as' with
  |nil=>simp at hlen
  |cons c' as'=>
   obtain⟨n1,n2,n3⟩:=D3.1 hn;cases q with
   |zero=>
    simp only[Ip,s8]at hq hq';subst hq;have htl:as'=as:=LQ fun p=>by have:=hp (p+1) (by omega);simpa using this
    subst htl;cases hh:cR c with
    |true=>
     have hc:c' = .any:=by rw[hq'];simp[ry,hh]
     subst hc;refine⟨v,b,bs,rfl,h1,?_,n1,n2,fun x hx=>by simp[hx],fun x hx=>by simp[hx],fun x hx hx'=>n3 x hx x hx' rfl⟩;have:=Vs.cons (r:=jf β ob w bad) (a:=.any) (v:=v) (b:=[]) rfl h2;simpa using this
    |false=>
     have hc:c'=c:=by rw[hq'];simp[ry,hh]
     subst hc;have hb:b=[]:=MR h1 hh;subst hb;exact⟨v,[],bs,rfl,h1,by simpa using Vs.cons h1 h2,rN,n2,by simp,fun x hx=>by simp[hx],by simp⟩
   |succ q=>
    have hc:c'=c:=by have:=hp 0 (by omega);simpa using this
    subst hc;obtain⟨u,b1,b2,g1,g2,g3,g4,g5,g6,g7,g8⟩:=ih (q:=q) (as':=as') (a:=a) n2 (by simpa using hq) (by simpa using hlen) (fun p hpq=>by have:=hp (p+1) (by omega);simpa using this) (by simpa using hq');refine⟨u,b1,b++b2,by simpa using g1,g2,Vs.cons h1 g3,g4,D3.2 ⟨n1,g5,fun x hx y hy he=>?_⟩,fun x hx=>by simp[g6 x hx],fun x hx=>?_,fun x hx hx'=>?_⟩;exact n3 x hx y (g7 y hy) he;rcases jR.1 hx with h|h;simp[h];simp[g7 x h];rcases jR.1 hx' with h|h;exact n3 x h x (g6 x hx) rfl;exact g8 x hx h
end
def F4(P:Program)(E:Env)(all:Array Oper)(L:List Oper)(ob:cW)(sl:List AV)(o:Oper)(v:AV):Prop:=
 ∃b,uN all sl o=some b/\if b=true then ∃C,fP P E C/\ec E C ob (bk sl) o some=some v/\∃t,o.dst=some t/\(cR v=true->tZ L t=true) else v = .non
structure Ctx(P:Program)(E:Env)(all:Array Oper)(L:List Oper)(avs sl0:List AV)(ob:cW):Prop where
 pre:∃m,L=all.toList.take m
 len:L.length=avs.length
 uniq:Js L
 step:∀j o,L[j]?=some o->F4 P E all L ob (kO L avs sl0 j) o (avs.getD j .any)
 edge:∀(j:Nat) (o:Oper),all.toList[j]?=some o->∀e∈o.after,Region.binds .any e=true->e.on<j
 ord:∀(i j:Nat) (oi oj:Oper) (t:Nat),all.toList[i]?=some oi->all.toList[j]?=some oj->i≠j->oi.dst=some t->t∈oj.looksAt all->(i<j->Nat.testBit ((je all.toList).getD j 0) i=true)/\(j<i->Nat.testBit ((je all.toList).getD i 0) j=true)
 nn:uV sl0
def eV(all:Array Oper)(S:Nat->Bool):Prop:=∀(j:Nat) (o:Oper),all.toList[j]?=some o->S j=true->∀e∈o.after,Region.binds .any e=true->S e.on=true
theorem wV{all:Array Oper}{o:Oper}{t:Nat}(h:t∈de o):t∈o.looksAt all:=uf _ h
section
variable {P:Program} {E:Env} {all:Array Oper} {L:List Oper} {avs sl0:List AV} {ob:cW} {S:Nat->Bool}
theorem Ctx.at(h:Ctx P E all L avs sl0 ob){j:Nat}{o:Oper}(hj:L[j]?=some o):all.toList[j]?=some o:=by obtain⟨m,rfl⟩:=h.pre;rw[D5]at hj;split at hj;exact hj;cases hj
theorem Ctx.before(h:Ctx P E all L avs sl0 ob)(hS:eV all S){j i:Nat}{o:Oper}(hj:all.toList[j]?=some o)(hr:S j=true\/∀e∈o.after,Region.binds .any e=true->S e.on=true)(hb:Nat.testBit ((je all.toList).getD j 0) i=true):S i=true:=by have hr':∀e∈o.after,Region.binds .any e=true->S e.on=true:=hr.elim (fun hs=>hS j o hj hs) id;exact ky (S:=fun i=>S i=true) h.edge hS j i o hj hr' hb
theorem Ctx.agree(h:Ctx P E all L avs sl0 ob)(hS:eV all S){j:Nat}{o:Oper}(hj:L[j]?=some o)(hn:S j=false)(hr:∀e∈o.after,Region.binds .any e=true->S e.on=true){t:Nat}(ht:t∈o.looksAt all):
  (jP L avs sl0 S).getD t .any=(kO L avs sl0 j).getD t .any \/
   ∃i oi,L[i]?=some oi/\oi.dst=some t/\S i=true/\i<j/\t<sl0.length/\cR (avs.getD i .any)=true/\(jP L avs sl0 S).getD t .any=Bc (cL L S i) t (avs.getD i .any)/\(kO L avs sl0 j).getD t .any=avs.getD i .any:=by
 have hjl:j<=L.length:=Nat.le_of_lt (tR.1 hj).1;rw[gZ];split
 .rename_i hlt;rw[wP h.uniq h.len t hlt j hjl];unfold BC;cases hw:wr L t with
  |none=>exact .inl rfl
  |some i=>
   obtain⟨oi,hi,hd⟩:=rS hw;simp only;by_cases hij:i=j;subst hij;rw[hn,ab (by omega)];exact .inl rfl
   .obtain⟨h1,h2⟩:=h.ord i j oi o t (h.at hi) (h.at hj) hij hd ht;rcases iQ i j with hlt'|hge
    .have hSi:=h.before hS (h.at hj) (.inr hr) (h1 hlt');rw[hSi,aa hlt'];simp only[pD];cases hv:cR (avs.getD i .any) with
     |false=>left;unfold Bc;rw[hv];rfl
     |true=>exact .inr ⟨i,oi,hi,hd,hSi,hlt',hlt,hv,rfl,rfl⟩
    have hlt':j<i:=by omega
    have hSi:S i=false:=by
     cases hSi:S i with
     |false=>rfl
     |true=>have:=h.before hS (h.at hi) (.inl hSi) (h2 hlt');rw[hn]at this;cases this
    rw[hSi,ab (by omega)];exact .inl rfl
 rename_i hlt;left;have:(kO L avs sl0 j).length=sl0.length:=sX j;simp[List.getD,qA (show(kO L avs sl0 j).length<=t by omega)]
theorem vC{dst:Option Nat}{op:Op}{x q:Nat}{o:Oper}(ho:o.op = .extract (.tmp x) q){t:Nat}(ht:t∈de o):t=x:=by unfold de at ht;rw[ho]at ht;simpa[Op.operands]using ht
theorem Dx{C:bC}{R:Type}{ρ ρ':Operand->AV}{o:Oper}{x:Operand}{q:Nat}(ho:o.op = .extract x q){vs vs':List AV}(h:ρ x = .tup vs)(h':ρ' x = .tup vs')(he:vs[q]?=vs'[q]?)(k:AV->Option R):ec E C ob ρ o k=ec E C ob ρ' o k:=by unfold ec;rw[ho];simp only[h,h',he]
theorem Ctx.value(h:Ctx P E all L avs sl0 ob)(hS:eV all S){j:Nat}{o:Oper}(hj:L[j]?=some o)(hn:S j=false)(hr:∀e∈o.after,Region.binds .any e=true->S e.on=true){C:bC}{av:AV}
  (hk:ec E C ob (bk (kO L avs sl0 j)) o some=some av):ec E C ob (bk (jP L avs sl0 S)) o some=some av:=by
 by_cases hall:∀t∈de o,(jP L avs sl0 S).getD t .any=(kO L avs sl0 j).getD t .any
 .rw[GM (ρ':=bk (kO L avs sl0 j)) o (fun x hx=>?_)];exact hk
  .cases x with
   |tmp t=>exact hall t (by unfold de;rw[Qm];exact⟨.tmp t,by simpa using hx,rfl⟩)
   |_=>rfl
 .have:∃t,t∈de o/\(jP L avs sl0 S).getD t .any≠(kO L avs sl0 j).getD t .any:=by apply og;intro hh;exact hall fun t ht=>og fun hne=>hh ⟨t,ht,hne⟩
  obtain⟨t,ht,hne⟩:=this;obtain⟨i,oi,hi,hd,hSi,hij,hlt,hv,hs1,hs2⟩:=(h.agree hS hj hn hr (wV ht)).resolve_left hne;obtain⟨b,_,hst⟩:=h.step i oi hi;have hb:b=true:=by
   cases b with
   |true=>rfl
   |false=>simp only[OR,JH]at hst;rw[hst]at hv;cases hv
  subst hb;simp only[sq]at hst;obtain⟨_,_,_,t',hd',hsole⟩:=hst;rw[hd]at hd';cases hd';have hsole:=hsole hv;have other:∀o'∈cL L S i,gM o' t=true->∃x p y q,o'.op = .extract (.tmp x) p/\o.op = .extract (.tmp y) q/\p≠q:=by intro o' ho' hr';obtain⟨j',h1,h2,h3⟩:=tl.1 ho';exact Mc hsole h1 hj (fun e=>by subst e;rw[hn]at h3;cases h3) hr' (DZ ht)
  have:∃o'∈cL L S i,gM o' t=true:=by
   apply og;intro hh;apply hne;rw[hs1,hs2];refine Et fun o' ho'=>?_;cases hc:gM o' t with
   |false=>rfl
   |true=>exact absurd ⟨o',ho',hc⟩ hh
  obtain⟨o1,ho1,hr1⟩:=this;obtain⟨_,_,y,q,_,hoq,_⟩:=other o1 ho1 hr1;have hty:t=y:=vC (dst:=none) (op:=o.op) hoq ht;subst hty;have hnoN:(cL L S i).any (fun o=>ie o t)=false:=by rw[HR];intro o' ho' hrn;obtain⟨x,p,_,_,he,_,_⟩:=other o' ho' (yB hrn);unfold ie at hrn;rw[he]at hrn;cases hrn
  have hnoX:(cL L S i).any (fun o=>ng o t (0+q))=false:=by rw[HR];intro o' ho' hrx;obtain⟨x,p,y',q',he,he',hpq⟩:=other o' ho' (BO hrx);rw[hoq]at he';cases he';unfold ng at hrx;rw[he]at hrx;simp only[eJ]at hrx;have:=xN hrx.2;omega
  have hclr:Bc (cL L S i) t (avs.getD i .any)=vd (cL L S i) t (avs.getD i .any):=by unfold Bc;rw[hv];rfl
  rw[hclr]at hs1;cases hx:avs.getD i .any with
  |tup vs=>
   rw[hx]at hs1 hs2;have hs1':(jP L avs sl0 S).getD t .any = .tup (Bd (cL L S i) t vs 0):=by rw[hs1];unfold vd;simp only[hnoN];rfl
   rw[Dx (C:=C) (ob:=ob) (E:=E) (ρ:=bk (jP L avs sl0 S)) (ρ':=bk (kO L avs sl0 j)) hoq hs1' hs2 (by rw[lk,hnoX];simp) some]
   exact hk
  |_=>rw[hx]at hs1 hs2;exact absurd (by rw[hs1,hs2];unfold vd;simp only[hnoN];rfl) hne
end
end
section
section
variable {P:Program} {E:Env} {all:Array Oper} {L:List Oper} {avs sl0:List AV} {ob:cW} {S S':Nat->Bool}
theorem Lo{l l':List Oper}{t:Nat}(h:∀o,gM o t=true->(o∈l↔o∈l'))(v:AV):vd l t v=vd l' t v:=by
 have any_:∀p:Oper->Bool,(∀o,p o=true->gM o t=true)->l.any p=l'.any p:=by intro p hp;rw[BR,nh,nh];exact⟨fun⟨o,h1,h2⟩=>⟨o,(h o (hp o h2)).1 h1,h2⟩,fun⟨o,h1,h2⟩=>⟨o,(h o (hp o h2)).2 h1,h2⟩⟩
 have hN:=any_ (fun o=>ie o t) fun o h=>yB h;unfold vd;split;rename_i vs;rw[hN];congr 2;apply LQ;intro q;rw[lk,lk,any_ (fun o=>ng o t (0+q)) fun o h=>BO h];rw[hN]
structure De(S S':Nat->Bool)(j:Nat):Prop where
 new:S' j=true
 old:∀i,i≠j->S' i=S i
theorem qQ{j:Nat}(hm:De S S' j)(hn:S j=false){i:Nat}{o':Oper}:o'∈cL L S' i↔o'∈cL L S i\/(L[j]?=some o'/\i<j):=by rw[tl,tl];constructor;rintro⟨k,h1,h2,h3⟩;by_cases hk:k=j;subst hk;exact .inr ⟨h1,h2⟩;rw[hm.old k hk]at h3;exact .inl ⟨k,h1,h2,h3⟩;rintro(⟨k,h1,h2,h3⟩|⟨h1,h2⟩);refine⟨k,h1,h2,?_⟩;rw[hm.old k (fun e=>by subst e;rw[hn]at h3;cases h3)];exact h3;exact⟨j,h1,h2,hm.new⟩
theorem Ctx.dstSlot(h:Ctx P E all L avs sl0 ob)(hS:eV all S){j:Nat}(hm:De S S' j){o:Oper}(hj:L[j]?=some o)(hn:S j=false){t:Nat}(hd:o.dst=some t)(hlt:t<sl0.length):
  (jP L avs sl0 S').getD t .any=avs.getD j .any:=by
 rw[gZ,aa hlt];unfold BC;rw[EC h.uniq hj hd];simp only[hm.new,pD];refine Et fun o' ho'=>?_;obtain⟨r,h1,h2,h3⟩:=tl.1 ho';cases hr:gM o' t with
 |false=>rfl
 |true=>
  have h3':S r=true:=by rw[<-hm.old r (by omega)];exact h3
  have:=h.before hS (h.at h1) (.inl h3') ((h.ord j r o o' t (h.at hj) (h.at h1) (by omega) hd (wV (qy hr))).1 h2);rw[hn]at this;cases this
theorem Ctx.keepSlot(h:Ctx P E all L avs sl0 ob){j:Nat}(hm:De S S' j){o:Oper}(hj:L[j]?=some o)(hn:S j=false){t:Nat}(hd:o.dst≠some t)(hr:gM o t=false):
  (jP L avs sl0 S').getD t .any=(jP L avs sl0 S).getD t .any:=by
 rw[gZ,gZ];split
 .unfold BC;cases hw:wr L t with
  |none=>rfl
  |some i=>
   obtain⟨oi,hi,hdi⟩:=rS hw;have hij:i≠j:=fun e=>by subst e;rw[hj]at hi;cases hi;exact hd hdi
   simp only[hm.old i hij];cases S i with
   |false=>rfl
   |true=>
    simp only[pD];unfold Bc;cases cR (avs.getD i .any) with
    |false=>rfl
    |true=>simp only[pD];refine Lo (fun o' ho'=>?_) _;rw[qQ hm hn];exact⟨fun x=>x.elim id fun⟨h1,_⟩=>(by rw[hj]at h1;cases h1;rw[hr]at ho';exact absurd ho' (by simp)),fun x=>Or.inl x⟩
 rfl
theorem M6{l:List Oper}{t:Nat}{v:AV}(h:l.any (fun o=>ie o t)=true)(hv:cR v=true):vd l t v = .any:=by unfold vd;split;rename_i vs;rw[h];simp[ry,hv];rw[h];simp[ry,hv]
theorem Ctx.readSlot (h : Ctx P E all L avs sl0 ob) (hS : eV all S) {j : Nat} (hm : De S S' j) {o : Oper} (hj : L[j]? = some o) (hn : S j = false) {t : Nat} (hd : o.dst ≠ some t) (hr : ie o t = true) :
    (jP L avs sl0 S').getD t .any = .any ∨ ((jP L avs sl0 S').getD t .any = (jP L avs sl0 S).getD t .any ∧ cR ((jP L avs sl0 S).getD t .any) = false) := by
  rw [gZ, gZ];split
  · rename_i hlt
    unfold BC;cases hw : wr L t with
    | none => exact .inr ⟨rfl, h.nn t⟩
    | some i =>
      obtain ⟨oi, hi, hdi⟩ := rS hw;have hij : i ≠ j := fun e => by subst e; rw [hj] at hi; cases hi; exact hd hdi
      simp only [hm.old i hij];cases hSi : S i with
      | false => exact .inr ⟨rfl, h.nn t⟩
      | true =>
        simp only [pD];unfold Bc;cases hv : cR (avs.getD i .any) with
        | false => exact .inr ⟨rfl, hv⟩
        | true =>
          simp only [pD];left;have hlt : i < j := by
            rcases iQ i j with h' | h'
            · exact h'
            · have := h.before hS (h.at hi) (.inl hSi) ((h.ord i j oi o t (h.at hi) (h.at hj) hij hdi (wV (qy (yB hr)))).2 (by omega))
              rw [hn] at this; cases this
          refine M6 ?_ hv;rw [nh];exact ⟨o, (qQ hm hn).2 (.inr ⟨hj, hlt⟩), hr⟩
  · exact .inl rfl
theorem Lq (v : AV) : ry (ry v) = ry v := by
  cases h : cR v with
  | false => have : ry v = v := by unfold ry; rw [h]; rfl
             rw [this, this]
  | true => have : ry v = .any := by unfold ry; rw [h]; rfl
            rw [this]; rfl
theorem Ctx.partSlot (h : Ctx P E all L avs sl0 ob) (hS : eV all S) {j : Nat} (hm : De S S' j) {o : Oper} (hj : L[j]? = some o) (hn : S j = false) {t q : Nat} (hd : o.dst ≠ some t) (ho : o.op = .extract (.tmp t) q) :
    ((jP L avs sl0 S').getD t .any = (jP L avs sl0 S).getD t .any ∧ (cR ((jP L avs sl0 S).getD t .any) = false ∨ ∀ vs, (jP L avs sl0 S).getD t .any ≠ .tup vs)) ∨
      ∃ vs vs', (jP L avs sl0 S).getD t .any = .tup vs ∧ (jP L avs sl0 S').getD t .any = .tup vs' ∧ vs'.length = vs.length ∧ (∀ p, p ≠ q → vs'[p]? = vs[p]?) ∧ vs'[q]? = (vs[q]?).map ry := by
  have hr : gM o t = true := by unfold gM de; rw [ho]; simp [Op.operands, Mu]
  rw [gZ, gZ];split
  · rename_i hlt
    unfold BC;cases hw : wr L t with
    | none => exact .inl ⟨rfl, .inl (h.nn t)⟩
    | some i =>
      obtain ⟨oi, hi, hdi⟩ := rS hw;have hij : i ≠ j := fun e => by subst e; rw [hj] at hi; cases hi; exact hd hdi
      simp only [hm.old i hij];cases hSi : S i with
      | false => exact .inl ⟨rfl, .inl (h.nn t)⟩
      | true =>
        simp only [pD];unfold Bc;cases hx : cR (avs.getD i .any) with
        | false => exact .inl ⟨rfl, .inl hx⟩
        | true =>
          simp only [pD];have hlt : i < j := by
            rcases iQ i j with h' | h'
            · exact h'
            · have := h.before hS (h.at hi) (.inl hSi) ((h.ord i j oi o t (h.at hi) (h.at hj) hij hdi (wV (qy hr))).2 (by omega))
              rw [hn] at this; cases this
          cases hc : (cL L S i).any (fun o => ie o t) with
          | true =>
            left;have hc' : (cL L S' i).any (fun o => ie o t) = true := by rw [nh] at hc ⊢;obtain ⟨o', h1, h2⟩ := hc;exact ⟨o', (qQ hm hn).2 (.inl h1), h2⟩
            rw [M6 hc hx, M6 hc' hx];exact ⟨rfl, .inr (by simp)⟩
          | false =>
            have hc' : (cL L S' i).any (fun o => ie o t) = false := by
              rw [HR];intro o' ho' hrn;rcases (qQ hm hn).1 ho' with h1 | ⟨h1, _⟩
              · exact (HR.1 hc o' h1) hrn
              · rw [hj] at h1; cases h1; unfold ie at hrn; rw [ho] at hrn; cases hrn
            cases hxs : avs.getD i .any with
            | tup xs =>
              right;refine ⟨Bd (cL L S i) t xs 0, Bd (cL L S' i) t xs 0, by unfold vd; simp only [hc]; rfl, by unfold vd; simp only [hc']; rfl, by rw [wv, wv], fun p hp => ?_, ?_⟩
              · rw [lk, lk]
                congr 1;funext v;congr 1;rw [BR, nh, nh];constructor
                · rintro ⟨o', h1, h2⟩
                  rcases (qQ hm hn).1 h1 with h3 | ⟨h3, _⟩
                  · exact ⟨o', h3, h2⟩
                  · rw [hj] at h3; cases h3
                    unfold ng at h2; rw [ho] at h2;simp only [eJ] at h2;have := xN h2.2;omega
                · rintro ⟨o', h1, h2⟩
                  exact ⟨o', (qQ hm hn).2 (.inl h1), h2⟩
              · rw [lk, lk]
                have : (cL L S' i).any (fun o => ng o t (0 + q)) = true := by rw [nh];refine ⟨o, (qQ hm hn).2 (.inr ⟨hj, hlt⟩), ?_⟩;unfold ng; rw [ho]; simp [Mu]
                rw [this];cases xs[q]? with
                | none => rfl
                | some x =>
                  simp only [OS, pD, s8];cases (cL L S i).any (fun o => ng o t (0 + q)) with
                  | false => rfl
                  | true => exact (Lq x).symm
            | _ =>left;refine ⟨by unfold vd; simp only [hc, hc'], .inr fun vs => ?_⟩;unfold vd; simp only [hc]; simp
  · exact .inl ⟨rfl, .inl rfl⟩
theorem yA{o:Oper}{t:Nat}(h:gM o t=true):ie o t=true\/∃q,o.op = .extract (.tmp t) q:=by
 cases hN:ie o t with
 |true=>exact .inl rfl
 |false=>right;unfold ie at hN;split at hN;rename_i x q ho;have:=vC (dst:=none) (op:=o.op) ho (qy h);subst this;exact⟨q,ho⟩;unfold gM at h;rw[h]at hN;cases hN
end
section
variable {b0:Nat->Prop} {β:bd} {ob:cW} {w:World} {f:Nat->Ln} {P:Program} {E:Env} {all:Array Oper} {L:List Oper} {avs sl0:List AV} {S S':Nat->Bool}
def HN(b0:Nat->Prop)(β:bd)(ob:cW)(w0:World)(L:List Oper)(avs sl0:List AV)(S:Nat->Bool)(w:World)(tmps:Array Value):Prop:=
 ∃f,SR b0 β ob w (jP L avs sl0 S) tmps f/\(∀i b,b∈f i->w0.heap.size<=b)/\bM (fun _=>False) w0 w
theorem AA{tmps:Array Value}{dst:Option Nat}{v:Value}(i:Nat):(iH tmps dst v).getD i undef=if dst=some i/\i<tmps.size then v else tmps.getD i undef:=by
 cases dst with
 |none=>simp[iH]
 |some t=>simp only[s8,iH];by_cases hti:t=i/\i<tmps.size;obtain⟨rfl,hlt⟩:=hti;simp[hlt];rw[ab hti];by_cases hti':t=i;subst hti';have:¬t<tmps.size:=fun h'=>hti ⟨rfl,h'⟩;simp[Array.setIfInBounds,this];simp[Pm hti']
theorem Ctx.leftSlot(h:Ctx P E all L avs sl0 ob)(hS:eV all S){j:Nat}(hm:De S S' j){o:Oper}(hj:L[j]?=some o)(hn:S j=false){t:Nat}(hd:o.dst≠some t){bad:Nat->Prop}{v:Value}{bs:Ln}(hnd:bs.Nodup)(hv:c9 β ob w bad ((jP L avs sl0 S).getD t .any) v bs):
  ∃bs',c9 β ob w bad ((jP L avs sl0 S').getD t .any) v bs'/\bs'.Nodup/\∀b∈bs',b∈bs:=by
 cases hr:gM o t with
 |false=>exact⟨bs,by rw[h.keepSlot hm hj hn hd hr];exact hv,hnd,fun _ h=>h⟩
 |true=>
  rcases yA hr with hN|⟨q,ho⟩;rcases h.readSlot hS hm hj hn hd hN with h1|⟨h1,_⟩;exact⟨[],by rw[h1];rfl,rN,by simp⟩;exact⟨bs,by rw[h1];exact hv,hnd,fun _ h=>h⟩
  .rcases h.partSlot hS hm hj hn hd ho with⟨h1,_⟩|⟨vs,vs',h1,h2,h3,h4,h5⟩;exact⟨bs,by rw[h1];exact hv,hnd,fun _ h=>h⟩
   .rw[h1]at hv;obtain⟨us,rfl,hvs⟩:=hv;rw[h2];cases hq:vs[q]? with
    |none=>
     have:vs'=vs:=LQ fun p=>by by_cases hp:p=q;subst hp;rw[h5,hq];rfl;exact h4 p hp
     subst this;exact⟨bs,⟨us,rfl,hvs⟩,hnd,fun _ h=>h⟩
    |some x=>rw[hq]at h5;obtain⟨u,b1,b2,_,_,g3,_,g5,_,g7,_⟩:=Gj (q:=q) hvs hnd hq h3 h4 h5;exact⟨b2,⟨us,rfl,g3⟩,g5,g7⟩
theorem Ctx.leftAll(h:Ctx P E all L avs sl0 ob)(hS:eV all S){j:Nat}(hm:De S S' j){o:Oper}(hj:L[j]?=some o)(hn:S j=false){tmps:Array Value}(hR:SR b0 β ob w (jP L avs sl0 S) tmps f):
  ∃f':Nat->Ln,∀t,(o.dst=some t->f' t=[])/\(o.dst≠some t->c9 β ob w (Av b0 β ob f) ((jP L avs sl0 S').getD t .any) (tmps.getD t undef) (f' t))/\(f' t).Nodup/\∀b∈f' t,b∈f t:=by
 have:∀t,∃l:Ln,(o.dst=some t->l=[])/\(o.dst≠some t->c9 β ob w (Av b0 β ob f) ((jP L avs sl0 S').getD t .any) (tmps.getD t undef) l)/\l.Nodup/\∀b∈l,b∈f t:=?_;exact⟨fun t=>(this t).choose,fun t=>(this t).choose_spec⟩;intro t;by_cases hd:o.dst=some t;exact⟨[],fun _=>rfl,fun hne=>absurd hd hne,rN,by simp⟩;obtain⟨bs',h1,h2,h3⟩:=h.leftSlot hS hm hj hn hd (hR.nodup t) (hR.slot t);exact⟨bs',fun he=>absurd he hd,fun _=>h1,h2,h3⟩
theorem Af{tmps:Array Value}{dst:Option Nat}{v:Value}:(iH tmps dst v).size=tmps.size:=by cases dst<;>simp[iH]
theorem HN.skip{w0:World}(h:Ctx P E all L avs sl0 ob)(hS:eV all S){j:Nat}(hm:De S S' j){o:Oper}(hj:L[j]?=some o)(hn:S j=false)(hv:avs.getD j .any = .non){tmps:Array Value}(hM:HN b0 β ob w0 L avs sl0 S w tmps):
  HN b0 β ob w0 L avs sl0 S' w (iH tmps o.dst undef):=by
 obtain⟨f,hR,hf,hs⟩:=hM;obtain⟨f',hf'⟩:=h.leftAll hS hm hj hn hR;have hsz:=hR.size;rw[jl]at hsz;refine⟨f',hR.rearr (by rw[Af,jl];exact hsz) (fun t=>?_) (fun i b hb=>⟨i,(hf' i).2.2.2 b hb⟩) (fun i=>(hf' i).2.2.1) (fun i k b hi hk=>hR.disj i k b ((hf' i).2.2.2 b hi) ((hf' k).2.2.2 b hk)),fun i b hb=>hf i b ((hf' i).2.2.2 b hb),hs⟩;rw[AA];by_cases hd:o.dst=some t;rw[(hf' t).1 hd];by_cases hlt:t<tmps.size;rw[aa ⟨hd,hlt⟩,h.dstSlot hS hm hj hn hd (by omega),hv];exact⟨rfl,rfl⟩;rw[ab (fun x=>hlt x.2),gZ,ab (by omega)];rfl;rw[ab (fun x=>hd x.1)];exact(hf' t).2.1 hd
theorem HN.part{w0:World}(h:Ctx P E all L avs sl0 ob)(hS:eV all S){j:Nat}(hm:De S S' j){o:Oper}(hj:L[j]?=some o)(hn:S j=false){x q d:Nat}(ho:o.op = .extract (.tmp x) q)(hd:o.dst=some d){vs:List AV}(hx:(jP L avs sl0 S).getD x .any = .tup vs)
  (hv:vs[q]?=some (avs.getD j .any)) {a:Act} (hM:HN b0 β ob w0 L avs sl0 S w a.tmps) :
  ∃v,(∀w,(execOp a.eval o).run P w = .ok (.value v) w)/\HN b0 β ob w0 L avs sl0 S' w (iH a.tmps o.dst v):=by
 obtain⟨f,hR,hf,hs⟩:=hM;have hsz:=hR.size;rw[jl]at hsz;have hsx:=hR.slot x;rw[hx]at hsx;obtain⟨us,hux,hvs⟩:=hsx;obtain⟨dst,op,type,pos,after,guard⟩:=o;simp only at ho hd;subst ho;subst hd;have hev:a.eval (.tmp x) = .tuple us.toArray:=by
  have:a.eval (.tmp x)=a.tmps.getD x undef:=by simp[Act.eval]
  rw[this];exact hux
 by_cases hxd:d=x;subst hxd;obtain⟨f',hf'⟩:=h.leftAll hS hm hj hn hR;obtain⟨u,b',g1,g2,g3⟩:=hvs.get hv;refine⟨u,fun w=>by simp[execOp,Instr.extract,hev,g1],fun t=>if t=d then b' else f' t,hR.rearr (by rw[Af,jl];exact hsz) (fun t=>?_) (fun i b hb=>?_) (fun i=>?_) (fun i k b hi hk=>?_),fun i b hb=>?_,hs⟩;rw[AA];by_cases hd:t=d;subst hd;simp only[sq];by_cases hlt:t<a.tmps.size;rw[aa ⟨trivial,hlt⟩,h.dstSlot hS hm hj hn rfl (by omega)];exact zL g2;have:(jP L avs sl0 S).getD t .any = .any:=by rw[gZ,ab (by omega)]
 rw[this]at hx;cases hx;simp only[ab hd];rw[ab (fun hc=>hd (uR hc.1).symm)];exact(hf' t).2.1 fun he=>hd (uR he).symm;split at hb;exact⟨d,g3.subset hb⟩;exact⟨i,(hf' i).2.2.2 b hb⟩;show(if i=d then b' else f' i).Nodup;split;exact g3.nodup (hR.nodup d);exact(hf' i).2.2.1;split at hi<;>split at hk;rename_i h1 h2;rw[h1,h2];rename_i h1 h2;exact(h1.trans (hR.disj d k b (g3.subset hi) ((hf' k).2.2.2 b hk)));rename_i h1 h2;exact(hR.disj i d b ((hf' i).2.2.2 b hi) (g3.subset hk)).trans h2.symm;exact hR.disj i k b ((hf' i).2.2.2 b hi) ((hf' k).2.2.2 b hk);dsimp only at hb;split at hb;exact hf d b (g3.subset hb);exact hf i b ((hf' i).2.2.2 b hb);have hdx:(⟨some d,.extract (.tmp x) q,type,pos,after,guard⟩:Oper).dst≠some x:=fun e=>hxd (uR e);obtain⟨u,b1,b2,g1,g2,g3,g4,g5,g6,g7,g8⟩:∃u b1 b2,us[q]?=some u/\jf β ob w (Av b0 β ob f) (avs.getD j .any) u b1/\c9 β ob w (Av b0 β ob f) ((jP L avs sl0 S').getD x .any) (a.tmps.getD x undef) b2/\b1.Nodup/\b2.Nodup/\(∀y∈b1,y∈f x)/\(∀y∈b2,y∈f x)/\(∀y∈b1,y∉b2):=by
  rcases h.partSlot hS hm hj hn hdx rfl with⟨h1,h2⟩|⟨ws,ws',h1,h2,h3,h4,h5⟩;rw[hx]at h1 h2;have h2':=h2.resolve_right (fun h=>h vs rfl);have hfx:f x=[]:=sv (hR.slot x) (by rw[hx];exact h2');obtain⟨u,b',e1,e2,e3⟩:=hvs.get hv;have hb':b'=[]:=by rw[hfx]at e3;simpa using e3
  subst hb';refine⟨u,[],[],e1,e2,?_,rN,rN,by simp,by simp,by simp⟩;rw[h1,hux];exact⟨us,rfl,by rw[hfx]at hvs;exact hvs⟩;rw[hx]at h1;cases h1;rw[hv]at h5;obtain⟨u,b1,b2,e1,e2,e3,e4⟩:=Gj (q:=q) hvs (hR.nodup x) hv h3 h4 h5;refine⟨u,b1,b2,e1,e2,?_,e4⟩;rw[h2,hux];exact⟨us,rfl,e3⟩
 obtain⟨f',hf'⟩:=h.leftAll hS hm hj hn hR;obtain⟨B1,hB1,hB2,hB3,hB4⟩:∃B1:Ln,(d<a.tmps.size->B1=b1)/\(¬d<a.tmps.size->B1=[])/\B1.Nodup/\∀y∈B1,y∈b1:=by by_cases hc:d<a.tmps.size;exact⟨b1,fun _=>rfl,fun hn=>absurd hc hn,g4,fun _ h=>h⟩;exact⟨[],fun h=>absurd h hc,fun _=>rfl,rN,by simp⟩
 have g6':=fun y hy=>g6 y (hB4 y hy);have g8':=fun y hy=>g8 y (hB4 y hy);refine⟨u,fun w=>by simp[execOp,Instr.extract,hev,g1],fun t=>if t=d then B1 else if t=x then b2 else f' t,hR.rearr (by rw[Af,jl];exact hsz) (fun t=>?_) (fun i b hb=>?_) (fun i=>?_) (fun i k b hi hk=>?_),fun i b hb=>?_,hs⟩;rw[AA];by_cases hd:t=d;subst hd;simp only[sq];by_cases hlt:t<a.tmps.size;rw[aa ⟨trivial,hlt⟩,h.dstSlot hS hm hj hn rfl (by omega),hB1 hlt];exact zL g2;rw[ab (fun hc=>hlt hc.2),gZ,ab (by omega)];rw[hB2 hlt];rfl;simp only[ab hd];rw[ab (fun hc=>hd (uR hc.1).symm)];split;rename_i htx;subst htx;exact g3;exact(hf' t).2.1 fun he=>hd (uR he).symm;split at hb;exact⟨x,g6' b hb⟩;split at hb;exact⟨x,g7 b hb⟩;exact⟨i,(hf' i).2.2.2 b hb⟩;show(if i=d then B1 else if i=x then b2 else f' i).Nodup;split;exact hB3;split;exact g5;exact(hf' i).2.2.1;have own:∀i,b∈(if i=d then B1 else if i=x then b2 else f' i)->(i=d/\b∈B1)\/(i≠d/\i=x/\b∈b2)\/(i≠d/\i≠x/\b∈f i):=by intro i hi;split at hi;rename_i h1;exact .inl ⟨h1,hi⟩;rename_i h1;split at hi;rename_i h2;exact .inr (.inl ⟨h1,h2,hi⟩);rename_i h2;exact .inr (.inr ⟨h1,h2,(hf' i).2.2.2 b hi⟩)
 rcases own i hi with⟨h1,h2⟩|⟨h1,h2,h3⟩|⟨h1,h2,h3⟩<;>rcases own k hk with⟨e1,e2⟩|⟨e1,e2,e3⟩|⟨e1,e2,e3⟩;rw[h1,e1];exact(g8' b h2 e3).elim;exact(e2 (hR.disj k x b e3 (g6' b h2))).elim;exact(g8' b e2 h3).elim;rw[h2,e2];exact(e2 (hR.disj k x b e3 (g7 b h3))).elim;exact(h2 (hR.disj i x b h3 (g6' b e2))).elim;exact(h2 (hR.disj i x b h3 (g7 b e3))).elim;exact hR.disj i k b h3 e3;dsimp only at hb;split at hb;exact hf x b (g6' b hb);split at hb;exact hf x b (g7 b hb);exact hf i b ((hf' i).2.2.2 b hb)
end
end
section
section
variable {b0:Nat->Prop} {β:bd} {ob:cW} {w:World} {f:Nat->Ln} {P:Program} {E:Env} {all:Array Oper} {L:List Oper} {avs sl0:List AV} {S S':Nat->Bool}
theorem HN.wantEq{w0:World}(h:Ctx P E all L avs sl0 ob)(hS:eV all S){j:Nat}{o:Oper}(hj:L[j]?=some o)(hn:S j=false)(hr:∀e∈o.after,Region.binds .any e=true->S e.on=true){tmps:Array Value}(hR:SR b0 β ob w (jP L avs sl0 S) tmps f)
  {b:Bool} (hb:uN all (kO L avs sl0 j) o=some b):Region.wanted o (yielded all tmps)=b:=by
 refine Gf hR (Gg hb fun g w t hg ht hnew=>?_);have hlook:t∈o.looksAt all:=by unfold Oper.looksAt;rw[hg];exact D4 _ (by simp[ht])
 rcases h.agree hS hj hn hr hlook with h1|⟨i,oi,_,_,_,_,_,h1,_,h2⟩;exact h1;rw[h2,h1]at hnew;cases hnew
theorem HN.op{w0:World}(hA:iw P E)(h:Ctx P E all L avs sl0 ob)(hS:eV all S){j:Nat}(hm:De S S' j){o:Oper}(hj:L[j]?=some o)(hn:S j=false)(hr:∀e∈o.after,Region.binds .any e=true->S e.on=true){a:Act}(hM:HN b0 β ob w0 L avs sl0 S w a.tmps):
  if Region.wanted o (yielded all a.tmps)=true then ∀next Q,(∀v w',HN b0 β ob w0 L avs sl0 S' w' (iH a.tmps o.dst v)->next (a.put o.dst v) w')->o.wp P a w next Q
  else HN b0 β ob w0 L avs sl0 S' w (iH a.tmps o.dst undef):=by
 obtain⟨b,hwb,hst⟩:=h.step j o hj;have hM':=hM;obtain⟨f,hR,hf,hs⟩:=hM';have hw:=HN.wantEq (w0:=w0) h hS hj hn hr hR hwb;rw[hw];cases b with
 |false=>simp only[OR,JH]at hst ⊢;exact hM.skip h hS hm hj hn hst
 |true=>
  simp only[sq]at hst ⊢;obtain⟨C,hC,hk,d,hd,_⟩:=hst;have hk':=h.value hS hj hn hr hk;by_cases hx:∃x q,o.op = .extract (.tmp x) q
  .obtain⟨x,q,ho⟩:=hx;have hk2:=hk';unfold ec at hk2;rw[ho]at hk2;simp only at hk2;split at hk2
   .rename_i vs hvs;split at hk2
    .rename_i y hy;cases hk2;obtain⟨v,h1,h2⟩:=hM.part h hS hm hj hn ho hd hvs hy;intro next Q hnx
     exact oV (h1 w) (hnx v w h2)
    cases hk2
   cases hk2
  .obtain⟨av,hav,hwp⟩:=BU hA hC hR hk';cases hav;intro next Q hnx
   refine hwp next Q fun v w' bs hdone=>hnx v w' ?_
   have hN:∀t,t∈de o->ie o t=true:=fun t ht=>(yA (DZ ht)).resolve_right fun⟨q,hq⟩=>hx ⟨t,q,hq⟩;refine⟨fun t=>if o.dst=some t/\t<sl0.length then bs else if t∈de o then[] else if o.dst=some t then[] else f t,hR.step (dst:=o.dst) hdone (by rw[jl,jl]) (fun t ht hlt=>?_) (fun t ht=>?_),fun i b hb=>?_,?_⟩;rw[jl]at hlt;refine⟨h.dstSlot hS hm hj hn ht hlt,?_⟩;rw[aa ⟨ht,hlt⟩]
   .rw[jl]at ht;have hne:¬(o.dst=some t/\t<sl0.length):=fun⟨h1,h2⟩=>ht.elim (fun h=>h h1) (fun h=>h h2);rw[ab hne];by_cases hdt:o.dst=some t;.right;have hlt:¬t<sl0.length:=fun hlt=>hne ⟨hdt,hlt⟩;refine⟨?_,by rw[gZ,ab hlt]⟩;split;rfl;.first|rfl|rw[aa hdt]
    .by_cases htu:t∈de o;rw[aa htu];rcases h.readSlot hS hm hj hn hdt (hN t htu) with h1|⟨h1,h2⟩;exact .inr ⟨rfl,h1⟩;have hft:f t=[]:=sv (hR.slot t) h2;exact .inl ⟨h1,hft.symm,fun _=>hft⟩
     .rw[ab htu,ab hdt];left;refine⟨h.keepSlot hm hj hn hdt ?_,rfl,fun hu=>absurd hu htu⟩;cases hc:gM o t with
      |false=>rfl
      |true=>exact absurd (qy hc) htu
   dsimp only at hb;split at hb;rcases(hdone.from_ b hb).2 with⟨q,_,hq⟩|hge;exact hf q b hq;exact kz hs.1 hge;split at hb;cases hb;split at hb;cases hb;exact hf i b hb;refine hs.trans hdone.same fun b hlt ⟨q,_,hq⟩=>?_;have:=hf q b hq;omega
theorem CP{α:Type}{c:Bool}{x y:α}(h:(bif c then none else some x)=some y):y=x:=by cases c;cases h;rfl;cases h
theorem Nb{op:BinOp}{t:TypeId}{x y av:AV}(h:FU E ob op t x y some=some av):((∃κ n κ' m,x = .d (.int κ) n/\y = .d (.int κ') m)\/(∃b c,x = .d .bool b/\y = .d .bool c)\/∃p q,tf x=some p/\tf y=some q)/\((∃κ n,av = .d (.int κ) n)\/∃b,av = .d .bool b):=by unfold FU at h;split at h;refine⟨.inl ⟨_,_,_,_,rfl,rfl⟩,?_⟩;split at h;have:=CP h;subst this;exact .inl ⟨_,_,rfl⟩;have:=CP h;subst this;exact .inl ⟨_,_,rfl⟩;split at h;split at h;cases h;exact .inl ⟨_,_,rfl⟩;cases h;exact .inl ⟨_,_,rfl⟩;cases h;exact .inl ⟨_,_,rfl⟩;split at h;cases h;cases h;exact .inl ⟨_,_,rfl⟩;split at h;cases h;cases h;exact .inl ⟨_,_,rfl⟩;cases h;exact .inl ⟨_,_,rfl⟩;cases h;exact .inl ⟨_,_,rfl⟩;cases h;exact .inl ⟨_,_,rfl⟩;cases h;exact .inl ⟨_,_,rfl⟩;split at h;cases h;exact .inr ⟨_,rfl⟩;cases h;cases h;refine⟨.inr (.inl ⟨_,_,rfl,rfl⟩),?_⟩;split at h;split at h;cases h;exact .inr ⟨_,rfl⟩;cases h;split at h;cases h;exact .inr ⟨_,rfl⟩;cases h;cases h;unfold tX at h;split at h;rename_i p q hp hq;refine⟨.inr (.inr ⟨_,_,hp,hq⟩),?_⟩;obtain⟨_,h⟩:=bO h;split at h;cases h;exact .inr ⟨_,rfl⟩;cases h;exact .inr ⟨_,rfl⟩;cases h;cases h
theorem Ed(hA:iw P E){C:bC}{sl:List AV}{a:Act}(hR:SR b0 β ob w sl a.tmps f){o:Oper}(hl:nz o=true){av:AV}(hk:ec E C ob (bk sl) o some=some av):
  o.guard=none/\∃v,∀w',(execOp a.eval o).run P w' = .ok (.value v) w':=by
 obtain⟨dst,op,type,pos,after,guard⟩:=o;unfold nz at hl;split at hl;rename_i t hg ho;simp only at hg ho;subst hg;subst ho;exact⟨rfl,_,fun w'=>by simp[execOp];rfl⟩;rename_i t i hg ho;simp only at hg ho;subst hg;subst ho;refine⟨rfl,?_⟩;unfold ec at hk;simp only at hk;split at hk;rename_i vs hx;split at hk;rename_i y hy;have hsl:=hR.slot t;rw[show sl.getD t .any=bk sl (.tmp t) from rfl,hx]at hsl;obtain⟨us,hux,hvs⟩:=hsl;obtain⟨u,b',g1,_,_⟩:=hvs.get hy;have hev:a.eval (.tmp t) = .tuple us.toArray:=by
  have:a.eval (.tmp t)=a.tmps.getD t undef:=by simp[Act.eval]
  rw[this];exact hux
 exact⟨u,fun w'=>by simp[execOp,Instr.extract,hev,g1]⟩;cases hk;cases hk;rename_i bop xt x y yt hg ho;simp only at hg ho;subst hg;subst ho;refine⟨rfl,?_⟩;have hb:FU E ob bop xt (bk sl x) (bk sl y) some=some av:=hk;obtain⟨bx,hx,_⟩:=uZ hR x;obtain⟨by_,hy,_⟩:=uZ hR y;obtain⟨hxy,hav⟩:=Nb hb;have at_:∀w',∃z,(do eqGuard bop xt x y (a.eval x) (a.eval y);binOp bop xt (a.eval x) (a.eval y):Sem Value).run P w' = .ok z w'/\c9 β ob w' (fun _=>False) av z []:=by
  intro w';have mk:∃bx by_,c9 β ob w' (fun _=>False) (bk sl x) (a.eval x) bx/\c9 β ob w' (fun _=>False) (bk sl y) (a.eval y) by_:=by rcases hxy with⟨κ,n,κ',m,h1,h2⟩|⟨b,c,h1,h2⟩|⟨p,q,h1,h2⟩;rw[h1]at hx;rw[h2]at hy;rw[h1,h2,(cP hx).1,(cP hy).1];exact⟨[],[],iy _ _,iy _ _⟩;rw[h1]at hx;rw[h2]at hy;rw[h1,h2,(iG hx).1,(iG hy).1];exact⟨[],[],p8 _,p8 _⟩;exact⟨[],[],(p7 h1 hx).2 _ _,(p7 h2 hy).2 _ _⟩
  obtain⟨c1,c2,m1,m2⟩:=mk;obtain⟨av',z,e1,e2,e3⟩:=Ex (P:=P) (ox:=x) (oy:=y) hb hA.env m1 m2;cases e1;exact⟨z,e2,e3 _⟩
 obtain⟨z,hz,hvz⟩:=at_ w;refine⟨z,fun w'=>?_⟩;obtain⟨z',hz',hvz'⟩:=at_ w';have:z'=z:=by rcases hav with⟨κ,n,rfl⟩|⟨b,rfl⟩;rw[(cP hvz).1,(cP hvz').1];rw[(iG hvz).1,(iG hvz').1]
 subst this;have:(execOp a.eval ⟨dst,.binOp bop xt x y yt,type,pos,after,none⟩)=(do pure (.value (<-(do eqGuard bop xt x y (a.eval x) (a.eval y);binOp bop xt (a.eval x) (a.eval y):Sem Value))):Sem Next):=rfl;rw[this,u7,hz'];rfl;cases hl
end
end
section
section
variable {b0:Nat->Prop} {β:bd} {ob:cW} {w:World} {f:Nat->Ln} {P:Program} {E:Env} {all:Array Oper} {L:List Oper} {avs sl0:List AV} {S S':Nat->Bool}
theorem Pr{bad:Nat->Prop}{as:List AV}{vs:List Value}{bs:Ln}(h:Vs (jf β ob w bad) as vs bs):∀{as':List AV},bs.Nodup->as'.length=as.length->(∀(p:Nat),as'[p]?=as[p]?\/as'[p]?=some .any) ->
  ∃bs',Vs (jf β ob w bad) as' vs bs'/\bs'.Nodup/\∀b∈bs',b∈bs:=by
 induction h with
 |nil=>intro as' _ hl _;have:as'=[]:=tS hl;subst this;exact⟨[],.nil,rN,by simp⟩
 | @cons c as v vs b bs h1 h2 ih=>
  intro as' hn hl hp;cases as' with
  |nil=>simp at hl
  |cons c' as'=>obtain⟨n1,n2,n3⟩:=D3.1 hn;obtain⟨bs',g1,g2,g3⟩:=ih (as':=as') n2 (by simpa using hl) (fun p=>by have:=hp (p+1);simpa using this);rcases hp 0 with h0|h0;simp only[Ip,s8]at h0;subst h0;refine⟨b++bs',.cons h1 g1,D3.2 ⟨n1,g2,fun x hx y hy=>n3 x hx y (g3 y hy)⟩,fun x hx=>?_⟩;rcases jR.1 hx with h|h;simp[h];simp[g3 x h];simp only[Ip,s8]at h0;subst h0;refine⟨bs',by simpa using Vs.cons (r:=jf β ob w bad) (a:=.any) (v:=v) (b:=[]) rfl g1,g2,fun x hx=>by simp[g3 x hx]⟩
theorem M5{bad:Nat->Prop}{l l':List Oper}{t:Nat}{x:AV}(hxn:cR x=true)(hsub:∀o∈l,o∈l'){v:Value}{bs:Ln}(hn:bs.Nodup)(h:c9 β ob w bad (vd l t x) v bs):∃bs',c9 β ob w bad (vd l' t x) v bs'/\bs'.Nodup/\∀b∈bs',b∈bs:=by
 have any_:∀p:Oper->Bool,l.any p=true->l'.any p=true:=by intro p hp;rw[nh]at hp ⊢;obtain⟨o,h1,h2⟩:=hp;exact⟨o,hsub o h1,h2⟩
 have clr1_:∀y:AV,ry y=y\/ry y = .any:=fun y=>by unfold ry;cases cR y<;>simp
 have other:(∀vs,x ≠ .tup vs)->∃bs',c9 β ob w bad (vd l' t x) v bs'/\bs'.Nodup/\∀b∈bs',b∈bs:=by
  intro hx;have e:∀l:List Oper,vd l t x=bif l.any (fun o=>ie o t) then ry x else x:=by intro l;unfold vd;split;exact absurd rfl (hx _);rfl
  rw[e]at h ⊢;cases hc:l.any (fun o=>ie o t) with
  |true=>rw[any_ _ hc];rw[hc]at h;exact⟨bs,h,hn,fun _ h=>h⟩
  |false=>
   rw[hc]at h;cases hc':l'.any (fun o=>ie o t) with
   |false=>exact⟨bs,h,hn,fun _ h=>h⟩
   |true=>simp only[pD];rcases clr1_ x with h1|h1;rw[h1];exact⟨bs,h,hn,fun _ h=>h⟩;rw[h1];exact⟨[],rfl,rN,by simp⟩
 cases x with
 |tup xs=>
  unfold vd at h ⊢;simp only at h ⊢;cases hc:l.any (fun o=>ie o t) with
  |true=>rw[any_ _ hc];rw[hc]at h;exact⟨bs,h,hn,fun _ h=>h⟩
  |false=>
   rw[hc]at h;simp only[uP]at h;obtain⟨us,rfl,hvs⟩:=h;cases hc':l'.any (fun o=>ie o t) with
   |false=>
    simp only[uP];obtain⟨bs',g1,g2,g3⟩:=Pr (as':=Bd l' t xs 0) hvs hn (by rw[wv,wv]) (fun p=>by
     rw[lk,lk];cases xs[p]? with
     |none=>exact .inl rfl
     |some y=>
      simp only[OS,s8];cases hX:l.any (fun o=>ng o t (0+p)) with
      |true=>rw[any_ _ hX];exact .inl rfl
      |false=>
       cases l'.any (fun o=>ng o t (0+p)) with
       |false=>exact .inl rfl
       |true=>exact clr1_ y)
    exact⟨bs',⟨us,rfl,g1⟩,g2,g3⟩
   |true=>
    simp only[pD];have:ry (.tup xs) = .any:=by unfold ry;rw[hxn];rfl
    rw[this];exact⟨[],rfl,rN,by simp⟩
 |_=>exact other (by simp)
theorem DU{α:Type}:∀{l:List α} {t:Nat} {x y:α},mZ (mZ l t x) t y=mZ l t y
 |[],t,x,y=>rfl
 |z::r,0,x,y=>rfl
 |z::r,t+1,x,y=>by simp only[mZ,DU]
theorem pY{tmps:Array Value}{w0:World}{β0:bd}{ob0:cW}:∀(r:List Oper) (st:St) (slx:List AV) (f:Nat->Ln) (β:bd),SR b0 β st.ob w slx tmps f->slx.length=st.sl.length->(r.filterMap (·.dst)).Nodup ->
  (∀o∈r,o∈L) ->
  (∀t,slx.getD t .any=st.sl.getD t .any\/∃l:List Oper,(∀o∈l,o∈L)/\cR (st.sl.getD t .any)=true/\slx.getD t .any=vd l t (st.sl.getD t .any)) ->
  (∀t,cR (st.sl.getD t .any)=true->∃o∈r,o.dst=some t) ->
  (∀i b,b∈f i->w0.heap.size<=b)->(∀b,dd β st.ob b->dd β0 ob0 b\/w0.heap.size<=b) ->
  ∃β',Rel b0 β' (settle L st r) w tmps/\(settle L st r).f=st.f/\∀b,dd β' (settle L st r).ob b->dd β0 ob0 b\/w0.heap.size<=b
 |[],st,slx,f,β,hR,hl,hn,hrL,hs,hnew,hf,ho=>by
  have hnn:uV st.sl:=fun i=>by
   cases h:cR (st.sl.getD i .any) with
   |false=>rfl
   |true=>obtain⟨o,ho,_⟩:=hnew i h;cases ho
  have heq:slx=st.sl:=by apply LQ;intro t;have:=hs t;rcases this with h|⟨l,_,h,_⟩;by_cases hlt:t<slx.length;rw[c6 hlt,c6 (by omega)];simp only[List.getD,c6 hlt,c6 (show t<st.sl.length by omega),JL]at h;rw[h];rw[qA (by omega),qA (by omega)];rw[hnn t]at h;cases h
  subst heq;exact⟨β,⟨Qh hR hnn,hnn⟩,rfl,ho⟩
 |o::r,st,slx,f,β,hR,hl,hn,hrL,hs,hnew,hf,ho=>by
  have hn':(r.filterMap (·.dst)).Nodup:=by rw[P9]at hn;split at hn;exact hn;exact(zI.1 hn).2
  have hrL':∀o∈r,o∈L:=fun o ho=>hrL o (by simp[ho]);cases hd:o.dst with
  |none=>
   have he:settle L st (o::r)=settle L st r:=by simp only[settle,hd]
   rw[he];exact pY r st slx f β hR hl hn' hrL' hs (fun t ht=>by obtain⟨o',h1,h2⟩:=hnew t ht;rcases eR.1 h1 with h|h;subst h;rw[hd]at h2;cases h2;exact⟨o',h,h2⟩) hf ho
  |some t=>
   have hnt:∀o'∈r,o'.dst≠some t:=fun o' ho' he=>by rw[P9,hd]at hn;exact(zI.1 hn).1 (Qm.2 ⟨o',ho',he⟩)
   cases hh:cR (st.sl.getD t .any) with
   |false=>
    have he:settle L st (o::r)=settle L st r:=by simp only[settle,hd,hh,uP]
    rw[he];exact pY r st slx f β hR hl hn' hrL' hs (fun t' ht=>by obtain⟨o',h1,h2⟩:=hnew t' ht;rcases eR.1 h1 with h|h;subst h;rw[hd]at h2;cases h2;rw[hh]at ht;cases ht;exact⟨o',h,h2⟩) hf ho
   |true=>
    have he:settle L st (o::r)=settle L (st.put (some t) (vd L t (st.sl.getD t .any))) r:=by simp only[settle,hd,hh,pD]
    rw[he];have hlt:t<st.sl.length:=by
     rcases iQ t st.sl.length with h|h;exact h;have:st.sl.getD t .any = .any:=by simp[List.getD,qA h]
     rw[this]at hh;cases hh
    obtain⟨l,hlL,hsl⟩:∃l:List Oper,(∀o∈l,o∈L)/\slx.getD t .any=vd l t (st.sl.getD t .any):=by rcases hs t with h|⟨l,h1,_,h2⟩;exact⟨[],by simp,by rw[h,Hs (by simp)]⟩;exact⟨l,h1,h2⟩
    have hslot:=hR.slot t;rw[hsl]at hslot;obtain⟨bs',g1,g2,g3⟩:=M5 hh hlL (hR.nodup t) hslot
    -- the slot is told anew
    have hR1:SR b0 β st.ob w (mZ slx t (vd L t (st.sl.getD t .any))) tmps (fun i=>if i=t then bs' else f i):=by refine hR.rearr (by rw[kY];exact hR.size) (fun i=>?_) (fun i b hb=>?_) (fun i=>?_) (fun i k b hi hk=>?_);rw[kx];by_cases hi:i=t;subst hi;rw[aa ⟨rfl,by rw[hl];exact hlt⟩,aa rfl];exact g1;rw[ab (fun h=>hi h.1),ab hi];exact hR.slot i;split at hb;exact⟨t,g3 b hb⟩;exact⟨i,hb⟩;show(if i=t then bs' else f i).Nodup;split;exact g2;exact hR.nodup i;split at hi<;>split at hk;rename_i h1 h2;rw[h1,h2];rename_i h1 h2;exact h1.trans (hR.disj t k b (g3 b hi) hk);rename_i h1 h2;exact(hR.disj i t b hi (g3 b hk)).trans h2.symm;exact hR.disj i k b hi hk
    obtain⟨β',k1,k2,k3,k4⟩:=hR1.key (t:=t) (key:=keyOf t) (a:=vd L t (st.sl.getD t .any)) (by have:=hR1.slot t;rw[kx,aa ⟨rfl,by rw[hl];exact hlt⟩]at this;exact this);have hput:st.put (some t) (vd L t (st.sl.getD t .any))={ st with sl:=mZ st.sl t (keyed (keyOf t) st.ob (vd L t (st.sl.getD t .any))).1,ob:=(keyed (keyOf t) st.ob (vd L t (st.sl.getD t .any))).2 }:=rfl;rw[hput];have hsets:=@DU AV slx t (vd L t (st.sl.getD t .any)) (keyed (keyOf t) st.ob (vd L t (st.sl.getD t .any))).1;rw[hsets]at k1;refine pY r { st with sl:=mZ st.sl t (keyed (keyOf t) st.ob (vd L t (st.sl.getD t .any))).1,ob:=(keyed (keyOf t) st.ob (vd L t (st.sl.getD t .any))).2 } (mZ slx t (keyed (keyOf t) st.ob (vd L t (st.sl.getD t .any))).1) _ β' k1 (by simp only[kY];exact hl) hn' hrL' (fun i=>?_) (fun i hi=>?_) (fun i b hb=>?_) (fun b hb=>?_);simp only[kx];by_cases hit:i=t;subst hit;rw[aa ⟨rfl,by rw[hl];exact hlt⟩,aa ⟨rfl,hlt⟩];exact .inl rfl;rw[ab (fun h=>hit h.1),ab (fun h=>hit h.1)];exact hs i;simp only[kx]at hi;by_cases hit:i=t;subst hit;rw[aa ⟨rfl,hlt⟩,k2]at hi;cases hi;rw[ab (fun h=>hit h.1)]at hi;obtain⟨o',h1,h2⟩:=hnew i hi;rcases eR.1 h1 with h|h;subst h;rw[hd]at h2;cases h2;exact absurd rfl hit;exact⟨o',h,h2⟩;.split at hb;cases hb;.rename_i hit;first|exact hf i b hb|(rw[ab hit]at hb;exact hf i b hb)
    rcases k4 b hb with h|h;exact ho b h;simp only[sq]at h;exact .inr (hf t b (g3 b h))
end
end
section
section
variable {b0:Nat->Prop} {P:Program} {E:Env} {all:Array Oper}
theorem trace{s:List Sh}{mm:List Oper}{t:List It}{r:eU s}{f0:Nat}{ob:cW}:∀(l:List Oper) (n:Nat) (sl:List AV),(∀m,m<n->fP P E (eo E (eI E m)))->eI E n s (.aops all l mm::t) { f:=f0,sl:=sl,ob:=ob }=some r ->
  ∃(avs:List AV) (n':Nat),n'<=n/\avs.length=l.length/\eI E n' s t (settle mm { f:=f0,sl:=(l.zip avs).foldl putL sl,ob:=ob } mm)=some r /\
   ∀j o,l[j]?=some o->F4 P E all mm ob (((l.zip avs).take j).foldl putL sl) o (avs.getD j .any)
 |[],n,sl,hC,hr=>by
  cases n with
  |zero=>cases hr
  |succ n=>exact⟨[],n,by omega,rfl,hr,fun j o h=>by simp at h⟩
 |o::l,n,sl,hC,hr=>by
  cases n with
  |zero=>cases hr
  |succ n=>
   have hr':tO E (eo E (eI E n)) all mm ob o sl (fun sl=>eI E n s (.aops all l mm::t) { f:=f0,sl:=sl,ob:=ob })=some r:=hr;unfold tO at hr';obtain⟨b,hb,h1⟩:=NQ hr';have go:∀(v:AV),F4 P E all mm ob sl o v->eI E n s (.aops all l mm::t) { f:=f0,sl:=putL sl (o,v),ob:=ob }=some r ->
     ∃(avs:List AV) (n':Nat),n'<=n+1/\avs.length=(o::l).length/\eI E n' s t (settle mm { f:=f0,sl:=((o::l).zip avs).foldl putL sl,ob:=ob } mm)=some r /\
      ∀j o',(o::l)[j]?=some o'->F4 P E all mm ob ((((o::l).zip avs).take j).foldl putL sl) o' (avs.getD j .any):=by
    intro v hst hrun;obtain⟨avs,n',g1,g2,g3,g4⟩:=trace l n (putL sl (o,v)) (fun m hm=>hC m (by omega)) hrun;refine⟨v::avs,n',by omega,by simp[g2],g3,fun j o' hj=>?_⟩;cases j with
    |zero=>simp only[Ip,s8]at hj;subst hj;exact hst
    |succ j=>have:=g4 j o' (by simpa using hj);simpa using this
   cases b with
   |false=>simp only[uP]at h1;refine go .non ⟨false,hb,by simp⟩ ?_;unfold putL;cases hd:o.dst<;>simp only[hd]at h1 ⊢ <;> exact h1
   |true=>
    simp only[pD]at h1;rw[wU]at h1;obtain⟨v,hv,h2⟩:=bind_some h1;cases hd:o.dst with
    |none=>simp only[hd]at h2;cases h2
    |some d=>simp only[hd]at h2;obtain⟨hc,h3⟩:=bO h2;refine go v ⟨true,hb,?_⟩ ?_;simp only[sq];refine⟨_,hC n (by omega),hv,d,hd,fun hn=>?_⟩;rw[hn]at hc;simpa using hc;unfold putL;simp only[hd];exact h3
structure PK(all:Array Oper)(m:Nat):Prop where
 uniq:(all.toList.filterMap (·.dst)).Nodup
 nosel:Region.noSelect all=true
 edge:∀(j:Nat) (o:Oper),all.toList[j]?=some o->∀e∈o.after,Region.binds .any e=true->e.on<j
 ord:∀(i j:Nat) (oi oj:Oper) (t:Nat),all.toList[i]?=some oi->all.toList[j]?=some oj->i≠j->oi.dst=some t->t∈oj.looksAt all->(i<j->Nat.testBit ((je all.toList).getD j 0) i=true)/\(j<i->Nat.testBit ((je all.toList).getD i 0) j=true)
 late:∀(i j:Nat) (oi oj:Oper),all.toList[i]?=some oi->all.toList[j]?=some oj->m<=j->i<j->Nat.testBit ((je all.toList).getD j 0) i=true\/(i<m/\nz oi=true)\/(j=m/\i<m/\EI (all.toList.take j) oi oj=true/\swapAt (je all.toList) all.size i j=true)
 light:∀(i j:Nat) (oi oj:Oper),all.toList[i]?=some oi->all.toList[j]?=some oj->j<m->nz oj=true->i≠j->Nat.testBit ((je all.toList).getD j 0) i=true\/(∃e∈oi.after,Region.binds .any e=true/\e.on=j)\/oj.apart all oi=true
theorem Rs{m:Nat}(h:Hq all m=true):PK all m:=by
 unfold Hq at h;simp only[eJ]at h;obtain⟨⟨h1,h2⟩,h3⟩:=h;have h3':∀(j:Nat) (o:Oper),all.toList[j]?=some o->_:=fun j o hj=>(uQ.1 h3 (o,j) (by rw[Rb];exact hj));have mem:∀{i:Nat} {a:Oper},all.toList[i]?=some a->(a,i)∈all.toList.zipIdx:=fun hi=>by rw[Rb];exact hi
 have ltb:∀{a b:Nat},Nat.blt a b=true↔a<b:=by intro a b;simp[Nat.blt_eq]
 have beq':∀{a b:Nat},Nat.beq a b=true↔a=b:=by intro a b;simp
 refine⟨mN h1,h2,fun j o hj e he hb=>?_,fun i j oi oj t hi hj hne hd ht=>?_,fun i j oi oj hi hj hm hij=>?_,fun i j oi oj hi hj hm hl hne=>?_⟩;have:=h3' j o hj;simp only[eJ]at this;have h4:=(Array.all_eq_true_iff_forall_mem.1 this.1.1.1) e he;simp only[Du,Ql]at h4;rcases h4 with h4|h4;rw[hb]at h4;cases h4;exact ltb.1 h4;have:=h3' j oj hj;simp only[eJ]at this;have h4:=uQ.1 this.1.1.2 (oi,i) (mem hi);simp only[hd,Du,Ql]at h4;rcases h4 with(h4|h4)|h4;exact absurd (beq'.1 h4) hne;have:(oj.looksAt all).any (Nat.beq t)=true:=by rw[nh];exact⟨t,ht,Mu t⟩
 rw[this]at h4;cases h4;constructor;intro hlt;have hb:Nat.blt i j=true:=ltb.2 hlt;rw[hb]at h4;exact h4;intro hlt;have hb:Nat.blt i j=false:=by
  cases hc:Nat.blt i j with
  |false=>rfl
  |true=>have:=ltb.1 hc;omega
 rw[hb]at h4;exact h4;have:=h3' j oj hj;simp only[eJ]at this;have h4:=this.1.2;simp only[Du]at h4;rcases h4 with h4|h4;have:=ltb.1 h4;omega;have h5:=uQ.1 h4 (oi,i) (mem hi);simp only[Du,eJ]at h5;rcases h5 with((h5|h5)|h5)|h5;have:=JP h5;omega;exact .inl h5;exact .inr (.inl ⟨ltb.1 h5.1,h5.2⟩);exact .inr (.inr ⟨beq'.1 h5.1.1.1,ltb.1 h5.1.1.2,h5.1.2,h5.2⟩);have:=h3' j oj hj;simp only[eJ]at this;have h4:=this.2;simp only[Du,Ql]at h4;rcases h4 with h4|h4;have hb:Nat.blt j m=true:=ltb.2 hm;rw[hb,hl]at h4;cases h4;have h5:=uQ.1 h4 (oi,i) (mem hi);simp only[Du]at h5;rcases h5 with((h5|h5)|h5)|h5;exact absurd (beq'.1 h5) hne;exact .inl h5;obtain⟨e,he,hb⟩:=Array.any_eq_true'.1 h5;simp only[eJ]at hb;exact .inr (.inl ⟨e,he,hb.1,beq'.1 hb.2⟩);exact .inr (.inr h5)
theorem JR{s:List Sh}{m np:Nat}(hA:iw P E)(hc:PK all m)(hdst:∀(i:Nat) o,all[i]?=some o->uU np o=true){k:List It}{r:eU s}:∀(l:List Oper) (i n:Nat) (β:bd) (st:St) (a:Act) (w:World) (β0:bd) (st0:St) (w0:World) (a0:Act) (n0 fuel:Nat) (listed:Array Bool),
  all.toList.drop i=l->m<=i\/i=all.size->listed.size=all.size->(∀q,q<all.size->listed.getD q true=decide (q<i))->l.length<=fuel ->
  eI E n s (.ops all l::k) st=some r->n<=n0->(∀m,m<n0->fP P E (eo E (eI E m)))->Rel b0 β st w a.tmps ->
  (∀b,dd β st.ob b->dd β0 st0.ob b\/w0.heap.size<=b)->bM (dd β0 st0.ob) w0 w->st.f=st0.f->Kept np a0 a ->
  wpAny P .any all (kD E np b0 β0 st0 w0 a0 s k n0 r) fuel listed a w
 |[],i,n,β,st,a,w,β0,st0,w0,a0,n0,fuel,listed,hl,hmi,hsz,hli,hfu,hr,hn,hC,hS,ho,hs,hf,hd=>by
  have hi:all.size<=i:=by have:=mM List.length hl;simp at this;omega
  have hready:Region.ready .any all listed=[]:=by
   cases hh:Region.ready .any all listed with
   |nil=>rfl
   |cons j js=>
    have hj:j∈Region.ready .any all listed:=by rw[hh];simp
    obtain⟨h1,o,h2,_⟩:=ON.1 hj;have hlt:j<all.size:=(NK.1 h2).1;rw[hli j hlt]at h1;simp at h1;omega
  cases n with
  |zero=>cases hr
  |succ n=>have hr':eI E n s k st=some r:=hr;exact wpAny_done hready ⟨st,n,by omega,hr',hf,hd,jE.trans hS ho hs (jE.refl hS)⟩ fuel
 |o::l,i,n,β,st,a,w,β0,st0,w0,a0,n0,fuel,listed,hl,hmi,hsz,hli,hfu,hr,hn,hC,hS,ho,hs,hf,hd=>by
  cases n with
  |zero=>cases hr
  |succ n=>
   cases fuel with
   |zero=>simp at hfu
   |succ fuel=>
    have hi:all[i]?=some o:=by have:=mM (fun x:List Oper=>x[0]?) hl;simpa using this
    have hiL:all.toList[i]?=some o:=by simpa using hi
    have hilt:i<all.size:=(NK.1 hi).1;have hl':all.toList.drop (i+1)=l:=by rw[<-List.drop_drop,hl];rfl
    have hmi':m<=i:=hmi.resolve_right (by omega);have hr':l8 E (eo E (eI E n)) all o st (fun st=>eI E n s (.ops all l::k) st)=some r:=hr;obtain⟨st1,h1,h2,h3⟩:=rY hA (hC n (by omega)) hS hr';have hlistedF:∀q,listed.getD q false=true↔(q<all.size/\q<i):=by
     intro q;by_cases hq:q<all.size;have:=hli q hq;have h':listed.getD q false=listed.getD q true:=by
      have:q<listed.size:=by omega
      simp[this]
     rw[h',this];simp[hq];have:listed.getD q false=false:=by simp[OU (show listed.size<=q by omega)]
     rw[this];simp[hq]
    have hin:i∈Region.ready .any all listed:=by rw[ON];refine⟨by rw[hli i hilt];simp,o,hi,fun e he hb=>?_⟩;have:=hc.edge i o hiL e he hb;exact(hlistedF e.on).2 ⟨by omega,this⟩
    refine⟨fun h=>(by rw[h]at hin;cases hin),fun j hj=>?_⟩;obtain⟨hj1,oj,hj2,hj3⟩:=ON.1 hj;have hjlt:j<all.size:=(NK.1 hj2).1;have hji:i<=j:=by rw[hli j hjlt]at hj1;simpa using hj1
    have hjiL:all.toList[j]?=some oj:=by simpa using hj2
    have hjeq:j=i:=by
     rcases iQ i j with hlt|hge;exfalso;have hb:Nat.testBit ((je all.toList).getD j 0) i=true:=(hc.late i j o oj hiL hjiL (by omega) hlt).resolve_right fun h=>by rcases h with⟨h,_⟩|⟨_,h,_⟩<;>omega
     have:=ky (S:=fun q=>listed.getD q false=true) hc.edge (fun j' o' hj' hs' e he hb=>by obtain⟨e1,e2⟩:=(hlistedF j').1 hs';have:=hc.edge j' o' hj' e he hb;exact(hlistedF e.on).2 ⟨by omega,by omega⟩) j i oj hjiL hj3 hb
     have:=((hlistedF i).1 this).2;omega;omega
    subst hjeq;unfold wpOp;rw[hi];dsimp only;have hgo:=h3 (wpAny P .any all (kD E np b0 β0 st0 w0 a0 s k n0 r) fuel (listed.setIfInBounds j true)) (kD E np b0 β0 st0 w0 a0 s k n0 r) fun v w' hg=>by
     obtain⟨⟨β1,g1,g2⟩,g3⟩:=hg;refine JR hA hc hdst l (j+1) n β1 st1 (a.put o.dst v) w' β0 st0 w0 a0 n0 fuel (listed.setIfInBounds j true) hl' (.inl (by omega)) (by simpa using hsz) (fun q hq=>?_) (by simpa using hfu) h1 (by omega) hC (by rw[nj];exact g1) (fun b hb=>?_) ?_ (h2.trans hf) (hd.put (hdst _ _ hi) v);by_cases hqj:j=q;subst hqj;have:j<listed.size:=by omega
     simp[this];rw[OM true hqj,hli q hq];rw[Dr];omega;rcases g2 b hb with h|h;exact ho b h;exact .inr (kz hs.1 h);exact hs.trans g3 fun b hlt hb=>(ho b hb).resolve_right (by omega)
    split;rename_i hw;rw[aa hw]at hgo;exact .inl hgo;rename_i hw;rw[ab hw]at hgo;exact hgo
theorem least(S:Nat->Bool):∀n,(∀q,q<n->S q=true)\/∃i,i<n/\S i=false/\∀q,q<i->S q=true
 |0=>.inl fun q hq=>by omega
 |n+1=>by
  rcases least S n with h|⟨i,h1,h2,h3⟩
  .cases hn:S n with
   |true=>refine .inl fun q hq=>?_;rcases iQ q n with h'|h';exact h q h';rw[show q=n from by omega];exact hn
   |false=>exact .inr ⟨n,by omega,hn,h⟩
  exact .inr ⟨i,by omega,h2,h3⟩
def NT(listed:Array Bool)(n:Nat):Nat:=(List.range n).countP fun i=>!listed.getD i true
theorem CO{p p':Nat->Bool}:∀{l:Ln} {j:Nat},l.Nodup->j∈l->p j=true->p' j=false->(∀i,i≠j->p' i=p i)->l.countP p=l.countP p'+1
 |[],j,_,h,_,_,_=>by cases h
 |x::l,j,hn,hm,hp,hp',ho=>by
  obtain⟨h1,h2⟩:=zI.1 hn;rw[List.countP_cons,List.countP_cons];by_cases hx:x=j;subst hx;have:l.countP p=l.countP p':=List.countP_congr fun i hi=>by rw[ho i (fun e=>h1 (e▸hi))]
  rw[this,hp,hp'];simp;have hm':j∈l:=by rcases eR.1 hm with h|h;exact absurd h.symm hx;exact h
  rw[CO h2 hm' hp hp' ho,ho x hx];omega
theorem JA{listed:Array Bool}{n j:Nat}(hj:j<n)(hs:listed.size=n)(hl:listed.getD j true=false):NT listed n=NT (listed.setIfInBounds j true) n+1:=by
 refine CO (j:=j) List.nodup_range (yC.2 hj) (by rw[hl];rfl) ?_ fun i hi=>by rw[OM true (Ij hi)]
 have:j<listed.size:=by omega
 simp[this]
end
end
section
section
variable {b0:Nat->Prop} {β:bd} {ob:cW} {w:World} {f:Nat->Ln} {P:Program} {E:Env} {all:Array Oper}
theorem GK{α:Type}{xs:Array α}{x:α}{i:Nat}{g:α->α}(h:i<xs.size):(xs.push x).modify i g=(xs.modify i g).push x:=by
 apply Rn;intro k;rw[Qo,Q8,Q8,Qo,Array.size_modify];by_cases hk:k=xs.size;subst hk;have:¬i=xs.size:=by omega
 simp[this];simp[hk]
theorem DL{o:Obj}{a:Addr}{v:Value}(h:a.block<w.heap.size):(w.alloc o).setCell a v=(w.setCell a v).alloc o:=by simp only[World.alloc,World.setCell];rw[GK h]
def vz:Value->Bool
 |.int _ _=>true
 |.bool _=>true
 |_=>false
theorem E5{v:Value}(hv:vz v=true){a:Addr}{w:World}:(store a v).run P w=stored P w a v .plain:=by
 cases v<;>first
  |(simp[vz]at hv;done)
  |exact run_store_int ..
  |exact run_store_bool ..
theorem E6{v:Value}(hv:vz v=true):v.cells = #[v]:=by
 cases v<;>first
  |(simp[vz]at hv;done)
  |rfl
theorem Gm{t:TypeId}{ad:Addr}{v:Value}(hv:vz v=true){w:World}:(Instr.storeAt t (.pointer (some ad)) v).run P w=match P.info? t with
  | none => (Sem.run P (Go.stuck "no such type" : Sem Unit) w)
  | some i => if 1 ≠ i.size then (Sem.run P (Go.stuck "storeVar: the value has not the size of the variable" : Sem Unit) w) else stored P w ad v .plain := by
 have hc:=E6 hv;have hs:(storeCells ad [v]).run P w=stored P w ad v .plain:=by have h0:ad.add 0=ad:=rfl;simp only[storeCells,u7,h0];rw[E5 hv];cases stored P w ad v .plain<;>rfl
 cases hi:P.info? t with
 |none=>simp[Instr.storeAt,storeVar,Instr.sureAddr,sizeOf,typeInfo,hi]
 |some i=>
  simp only[Instr.storeAt,storeVar,Instr.sureAddr,sizeOf,typeInfo,u7,Dt,u9,P1,hi,hc];by_cases h1:(1:Nat)≠i.size;simp[h1];have h2:¬(#[v]:Array Value).size≠i.size:=by simpa using h1
  rw[ab h2,ab h1];simpa using hs
theorem H9{t:TypeId}{ad:Addr}{v:Value}(hv:vz v=true)(hsp:ad.spot=none){c:Array Value}{e:TypeId}{fr:Nat×Nat}(hh:w.heap[ad.block]?=some (.cells c e fr)){o:Obj}{w2:World}
  (h:(Instr.storeAt t (.pointer (some ad)) v).run P (w.alloc o) = .ok () w2):∃w3,(Instr.storeAt t (.pointer (some ad)) v).run P w = .ok () w3/\w2=w3.alloc o/\w3.heap.size=w.heap.size:=by
 have hlt:ad.block<w.heap.size:=by rcases iQ ad.block w.heap.size with h|h;exact h;rw[OU h]at hh;cases hh
 have hh1:(w.alloc o).heap[ad.block]?=some (.cells c e fr):=by show(w.heap.push o)[ad.block]?=_;rw[Q8,ab (by omega)];exact hh
 rw[Gm hv]at h ⊢;cases hi:P.info? t with
 |none=>rw[hi]at h;cases h
 |some i=>
  rw[hi]at h;simp only at h ⊢;split at h;cases h
  .have hc1:(w.alloc o).cell? ad=c[ad.off]?:=by simp[World.cell?,hh1,hsp]
   have hc:w.cell? ad=c[ad.off]?:=by simp[World.cell?,hh,hsp]
   have hf:w.frozen? ad=(w.alloc o).frozen? ad:=by simp[World.frozen?,hh1,hh]
   rename_i hne;unfold stored at h ⊢;rw[hc1]at h;rw[hc,hf];cases hx:c[ad.off]? with
   |none=>rw[hx]at h;simp only[World.farStore,hh1]at h;cases h
   |some y=>
    rw[hx]at h;simp only at h ⊢;cases hfz:(w.alloc o).frozen? ad with
    |true=>rw[hfz]at h;cases h
    |false=>rw[hfz]at h;simp only[OR,JH]at h ⊢;rw[DL hlt]at h;refine⟨w.setCell ad v,by rw[ab hne],?_,by simp[World.setCell]⟩;cases h;rfl
theorem MJ(hE:jJ P E){C:bC}{sl:List AV}{a:Act}(hR:SR b0 β ob w sl a.tmps f){o:Oper}{t:TypeId}{n c:Operand}(ho:o.op = .makeSlice t n c){av:AV}(hk:ec E C ob (bk sl) o some=some av):
  ∃N cells te,∀w':World,(execOp a.eval o).run P w' = .ok (.value (.slice (some ⟨w'.heap.size,0,none⟩) N N)) (w'.alloc (.cells cells te)):=by
 unfold ec at hk;rw[ho]at hk;simp only at hk;split at hk;rename_i e he;obtain⟨κ,m,hn,hk⟩:=gH hk;obtain⟨κ',m',hc,hk⟩:=gH hk;obtain⟨b1,h1,_,_⟩:=uZ hR n;obtain⟨b2,h2,_,_⟩:=uZ hR c;rw[hn]at h1;rw[hc]at h2;obtain⟨hv1,_⟩:=cP h1;obtain⟨hv2,_⟩:=cP h2;obtain⟨l,hl,hk1⟩:=bind_some hk;by_cases heq:m=m';subst heq;obtain⟨te,hu,hte⟩:=(hE.ty _ _ (fT he)).listU;obtain⟨i,z,hi,hs,hb,hz,hzc,_⟩:=hte.info;obtain⟨h0,h1',rfl⟩:=GV hl;refine⟨m.toNat,madeCells z.cells (m.toNat*i.size),te,fun w'=>?_⟩;have hr:=run_make (P:=P) w' t te i z hu hi hz κ κ' m m h0 (LK _) (by
  have:(i.bytes:Int)<=1024:=by omega
  have:(i.bytes:Int)*m<=1024*68719476736:=Int.mul_le_mul this h1' h0 (by omega);omega) (by omega)
 have:(execOp a.eval o)=(do pure (.value (<-Instr.makeSlice t (a.eval n) (a.eval c))):Sem Next):=by unfold execOp;rw[ho]
 rw[this,hv1,hv2,u7,hr];rfl;rw[ab heq]at hk1;cases hk1;cases hk
theorem Gk{ops:List Oper}{a o:Oper}(h:EI ops a o=true):a.guard=none/\(∃t n c,a.op = .makeSlice t n c)/\(∃d,a.dst=some d)/\o.guard=none/\o.dst=none /\
  ∃t p v,o.op = .store t (.tmp p) (.const v)/\vz v=true/\∃(i:Nat) (q:Oper),ops[i]?=some q/\q.guard=none/\q.dst=some p/\∃t x fl,q.op = .fieldAddr t x fl:=by
 unfold EI at h;split at h;.rename_i t n c d t' p v hag hao had hog hoo hod;simp only[eJ]at h;obtain⟨h1,h2⟩:=h;refine⟨hag,⟨_,_,_,hao⟩,⟨_,had⟩,hog,hod,_,_,_,hoo,by cases v<;>simp_all [vz],?_⟩;rw[nh]at h2;obtain⟨q,hq,h3⟩:=h2;obtain⟨i,hi⟩:=P4 hq;split at h3;rename_i x1 x2 x3 t2 e1 e2 e3;have:=xN h3;subst this;exact⟨i,q,hi,e1,e3,_,_,_,e2⟩;cases h3
 cases h
theorem AQ{b:Ln}{n i j:Nat}(h:swapAt b n i j=true){q:Nat}(hq:q<n):(i<q->q<j->Nat.testBit (b.getD j 0) q=true)/\(j<q->Nat.testBit (b.getD q 0) i=true/\Nat.testBit (b.getD q 0) j=true):=by unfold swapAt at h;have:=uQ.1 h q (yC.2 hq);simp only[eJ,Du]at this;obtain⟨h1,h2⟩:=this;constructor;intro hi hj;rcases h1 with(h1|h1)|h1;have:=JP h1;omega;have:=JP h1;omega;exact h1;intro hj;rcases h2 with h2|h2;have:=JP h2;omega;exact h2
theorem FC{C:bC}{sl:List AV}{o:Oper}{t:TypeId}{x:Operand}{fl:Nat}(ho:o.op = .fieldAddr t x fl){av:AV}(hk:ec E C ob (bk sl) o some=some av):
  cR av=false/\∀{bad:Nat->Prop} {u:Value} {bs:Ln},rM b0 β ob w bad->c9 β ob w bad av u bs->∃ad,u = .pointer (some ad)/\ad.spot=none/\∃c e fr,w.heap[ad.block]?=some (.cells c e fr):=by
 unfold ec at hk;rw[ho]at hk;simp only[AC]at hk;unfold sy at hk;split at hk;split at hk;split at hk;cases hk;refine⟨rfl,fun hO h=>?_⟩;obtain⟨_,b,c,cs,hb,hkk,hv⟩:=h;obtain⟨b',cells,elem,hb',hh,_⟩:=hO.box _ _ hkk;rw[hb]at hb';cases hb';exact⟨_,hv,rfl,_,_,_,hh⟩;cases hk;refine⟨rfl,fun hO h=>?_⟩;obtain⟨_,τ,l,b,o',c,hkk,hb,hv⟩:=h;rcases hO.row _ _ _ hkk with⟨h1,_⟩|⟨b',o2,c2,hb',hr⟩;rw[hb]at h1;cases h1;rw[hb]at hb';cases hb';obtain⟨cells,elem,hh,_⟩:=hr;exact⟨_,hv,rfl,_,_,_,hh⟩;simp only at hk;split at hk;rename_i σ _;split at hk;cases hk;refine⟨rfl,fun hO h=>?_⟩;obtain⟨_,ad,cs,hv,hsp,_,he,hat⟩:=h;have hl:=dK he;have hp:=σ.size_pos;obtain⟨y,r,rfl⟩:∃y r,cs=y::r:=by
  cases cs with
  |nil=>simp at hl;omega
  |cons y r=>exact⟨y,r,rfl⟩
 have h0:=hat 0 y rfl;refine⟨ad,hv,hsp,?_⟩;unfold World.cell? at h0;simp only at h0;split at h0;rename_i c e fr hh;exact⟨c,e,fr,hh⟩;cases h0;cases hk;cases hk;cases hk;cases hk;cases hk
theorem Mh{l:Array Bool}{i j:Nat}(h:i≠j):(l.setIfInBounds i true).setIfInBounds j true=(l.setIfInBounds j true).setIfInBounds i true:=by apply Rn;intro k;simp only[Array.getElem?_setIfInBounds,Array.size_setIfInBounds];by_cases h1:j=k;subst h1;simp[h];by_cases h2:i=k;subst h2;simp[h1];simp[h1,h2]
end
end
section
section
variable {b0:Nat->Prop} {β:bd} {ob:cW} {w:World} {f:Nat->Ln} {P:Program} {E:Env} {all:Array Oper}
theorem IH(hA:iw P E){C:bC}{sl:List AV}{a:Act}(hR:SR b0 β ob w sl a.tmps f){o:Oper}(hl:Ap o=true){av:AV}(hk:ec E C ob (bk sl) o some=some av):
  o.guard=none/\∃v,∀w',(execOp a.eval o).run P w' = .ok (.value v) w':=by
 unfold Ap at hl;rw[Du]at hl;rcases hl with hl|hl;exact Ed hA hR hl hk;split at hl;rename_i t hg ho;refine⟨hg,?_⟩;unfold ec at hk;rw[ho]at hk;simp only at hk;have hs:=hR.slot t;have hev:a.eval (.tmp t)=a.tmps.getD t undef:=by simp[Act.eval]
 have run:∀{ad:Addr},a.tmps.getD t undef = .pointer (some ad)->∃v,∀w',(execOp a.eval o).run P w' = .ok (.value v) w':=fun {ad} hv=>by refine⟨.pointer (some ad),fun w'=>?_⟩;unfold execOp;rw[ho];simp[hev,hv]
 rw[show sl.getD t .any=bk sl (.tmp t) from rfl]at hs;split at hk;rename_i hx;rw[hx]at hs;obtain⟨_,b,c,cs,_,_,hv⟩:=hs;exact run hv;rename_i hx;rw[hx]at hs;obtain⟨_,τ,l,b,c,_,_,_,hv⟩:=hs;exact run hv;rename_i hx;rw[hx]at hs;obtain⟨_,ad,cs,hv,_⟩:=hs;exact run hv;rename_i hx;rw[hx]at hs;obtain⟨_,τ,l,b,o,c,_,_,hv⟩:=hs;exact run hv;cases hk;rename_i t x fd hg ho;refine⟨hg,?_⟩;unfold ec at hk;rw[ho]at hk;simp only at hk;have hs:=hR.slot x;have hev:a.eval (.tmp x)=a.tmps.getD x undef:=by simp[Act.eval]
 rw[show sl.getD x .any=bk sl (.tmp x) from rfl]at hs;obtain⟨fields,fld,σ,hu,hf,hσ,hk⟩:=wc hA.env hk;have run:∀{ad:Addr},a.tmps.getD x undef = .pointer (some ad)->∃v,∀w',(execOp a.eval o).run P w' = .ok (.value v) w':=fun {ad} hv=>by refine⟨.pointer (some (ad.add fld.offset)),fun w'=>?_⟩;have hr:=rZ (P:=P) (w:=w') hu hf hσ (a:=ad);unfold execOp;rw[ho];simp[hev,hv,hr]
 split at hk;rename_i hx;rw[hx]at hs;obtain⟨_,b,c,cs,_,_,hv⟩:=hs;exact run hv;rename_i hx;rw[hx]at hs;obtain⟨_,τ,l,b,o,c,_,_,hv⟩:=hs;exact run hv;rename_i hx;rw[hx]at hs;obtain⟨_,ad,cs,hv,_⟩:=hs;exact run hv;cases hk;cases hl
theorem Gv{R:Type}{C:bC}{o:Oper}(hl:Ap o=true){st:St}{k:St->Option R}:l9 E C o st k=ec E C st.ob (bk st.sl) o fun v=>k (st.put o.dst v):=by
 have h:∀{op:Op},o.op=op->(∀t a x,op ≠ .store t a x)->(∀t n ps,op ≠ .buildSlice t n ps)->(∀c,op ≠ .call c)->l9 E C o st k=ec E C st.ob (bk st.sl) o fun v=>k (st.put o.dst v):=by intro op ho h1 h2 h3;unfold l9;split;rename_i t a x h;rw[ho]at h;exact absurd h (h1 t a x);rename_i t m ps h;rw[ho]at h;exact absurd h (h2 t m ps);rename_i c h;rw[ho]at h;exact absurd h (h3 c);rfl
 unfold Ap nz at hl;rw[Du]at hl;rcases hl with hl|hl;split at hl;rename_i ho;exact h ho (by simp) (by simp) (by simp);rename_i ho;exact h ho (by simp) (by simp) (by simp);rename_i ho;exact h ho (by simp) (by simp) (by simp);cases hl;split at hl;rename_i ho;exact h ho (by simp) (by simp) (by simp);rename_i ho;exact h ho (by simp) (by simp) (by simp);cases hl
theorem DE{s:List Sh}{np n:Nat}(hA:iw P E)(hns:Region.noSelect all=true)(hdst:∀(i:Nat) o,all[i]?=some o->uU np o=true)(hC:fP P E (eo E (eI E n))){k:List It}{r:eU s}:
  ∀(fuel:Nat) (listed:Array Bool) (β:bd) (st:St) (a:Act) (w:World) (β0:bd) (st0:St) (w0:World) (a0:Act),explore E (eo E (eI E n)) all (eI E n s k) fuel listed st=some r->Rel b0 β st w a.tmps ->
  (∀b,dd β st.ob b->dd β0 st0.ob b\/w0.heap.size<=b)->bM (dd β0 st0.ob) w0 w->st.f=st0.f->Kept np a0 a ->
  wpAny P .any all (kD E np b0 β0 st0 w0 a0 s k n r) fuel listed a w:=by
 intro fuel;have leaf:∀{β:bd} {st:St} {a:Act} {w:World} {β0:bd} {st0:St} {w0:World} {a0:Act},eI E n s k st=some r->Rel b0 β st w a.tmps ->
   (∀b,dd β st.ob b->dd β0 st0.ob b\/w0.heap.size<=b)->bM (dd β0 st0.ob) w0 w->st.f=st0.f->Kept np a0 a->kD E np b0 β0 st0 w0 a0 s k n r .normal a w:=
  fun {β st a w β0 st0 w0 a0} hr hS ho hs hf hd=>⟨st,n,dD _,hr,hf,hd,jE.trans hS ho hs (jE.refl hS)⟩
 induction fuel with
 |zero=>intro listed β st a w β0 st0 w0 a0 hr hS ho hs hf hd;unfold explore at hr;split at hr;rename_i hrd;exact wpAny_done hrd (leaf hr hS ho hs hf hd) 0;cases hr
 |succ fuel ih=>
  intro listed β st a w β0 st0 w0 a0 hr hS ho hs hf hd;have next:∀{j:Nat} {oj:Oper} {st1:St} {v:Value} {w':World},all[j]?=some oj->explore E (eo E (eI E n)) all (eI E n s k) fuel (listed.setIfInBounds j true) st1=some r->st1.f=st.f->jE b0 β st st1 w w' (iH a.tmps oj.dst v) ->
    wpAny P .any all (kD E np b0 β0 st0 w0 a0 s k n r) fuel (listed.setIfInBounds j true) (a.put oj.dst v) w':=by
   intro j oj st1 v w' hj h1 h2 hg;obtain⟨⟨β1,g1,g2⟩,g3⟩:=hg;refine ih _ β1 st1 (a.put oj.dst v) w' β0 st0 w0 a0 h1 (by rw[nj];exact g1) (fun b hb=>?_) ?_ (h2.trans hf) (hd.put (hdst _ _ hj) v);rcases g2 b hb with h|h;exact ho b h;exact .inr (kz hs.1 h);exact hs.trans g3 fun b hlt hb=>(ho b hb).resolve_right (by omega)
  unfold explore at hr;split at hr;rename_i hrd;exact wpAny_done hrd (leaf hr hS ho hs hf hd) _
  .rename_i j0 js hrd;split at hr
   .-- one comes first
    rename_i i hfind;have hmem:i∈Region.ready .any all listed:=by rw[hrd];exact List.mem_of_find?_eq_some hfind
    have hfree:=List.find?_some hfind;obtain⟨hiun,oi,hiA,hipre⟩:=ON.1 hmem;rw[hiA]at hr;simp only at hr;unfold MV at hfree;rw[hiA]at hfree;simp only[eJ]at hfree;obtain⟨hlx,hap⟩:=hfree;obtain⟨st1,h1,h2,h3⟩:=rY hA hC hS hr;have hgn:oi.guard=none:=by unfold Ap nz at hlx;rw[Du]at hlx;rcases hlx with h|h<;>split at h<;>first|assumption|cases h
    have hpk:∃av,ec E (eo E (eI E n)) st.ob (bk st.sl) oi some=some av:=by have hr':=hr;unfold l8 rU at hr';rw[hgn]at hr';simp only[pD]at hr';rw[Gv hlx,wU]at hr';obtain⟨av,h,_⟩:=bind_some hr';exact⟨av,h⟩
    obtain⟨av,hav⟩:=hpk;obtain⟨_,v,hrun⟩:=IH hA hS.sr hlx hav;have hwt:Region.wanted oi (yielded all a.tmps)=true:=by simp[Region.wanted,hgn]
    have hgo:=h3 (fun a' w'=>wpAny P .any all (kD E np b0 β0 st0 w0 a0 s k n r) fuel (listed.setIfInBounds i true) a' w') (kD E np b0 β0 st0 w0 a0 s k n r) fun v w' hg=>next hiA h1 h2 hg
    rw[aa hwt]at hgo;simp only[Oper.wp,hrun w,Oper.upon]at hgo;refine wpAny_first hiA (Region.noSelect_spec hns) (fun c a w hp=>hp.elim) fuel listed a w (fun j oj hj hji hjun hno=>?_) hmem (.inl ⟨hwt,hrun⟩) hgo;have hjlt:j<all.size:=(NK.1 hj).1;have:=uQ.1 hap j (yC.2 hjlt);rw[hj,hjun]at this;simp only[Du,OR,or_false]at this;rcases this with h|h|h;exact absurd (xN h) hji;obtain⟨e,he,hb⟩:=Array.any_eq_true'.1 h;simp only[eJ]at hb;exact absurd (xN hb.2) (hno e he hb.1);exact h
   .-- all of them
    obtain⟨_,hall⟩:=D9 hr;refine⟨fun h=>(by rw[h]at hrd;cases hrd),fun j hj=>?_⟩;obtain⟨hjun,oj,hjA,_⟩:=ON.1 hj;rw[hrd]at hj;have hrj:=hall _ (PZ hj);rw[hjA]at hrj;simp only at hrj;obtain⟨st1,h1,h2,h3⟩:=rY hA hC hS hrj;have hgo:=h3 (wpAny P .any all (kD E np b0 β0 st0 w0 a0 s k n r) fuel (listed.setIfInBounds j true)) (kD E np b0 β0 st0 w0 a0 s k n r) fun v w' hg=>next hjA h1 h2 hg
    unfold wpOp;rw[hjA];dsimp only;split;rename_i hw;rw[aa hw]at hgo;exact .inl hgo;rename_i hw;rw[ab hw]at hgo;exact hgo
theorem IV(hA:iw P E)(hP:P.follows .mixedOrders=true):Nt P E:=by intro np s ops k r id n st a w b0 β hns hdst hr hC hS;refine wp_region_any hP ?_;have hdrew:bM (fun _=>False) w { w with drawn:=w.drawn+1 }:=bM.drew _ w;exact DE hA hns hdst hC ops.size _ β st a { w with drawn:=w.drawn+1 } β st w a hr ⟨hS.sr.world hdrew fun _ _ h=>h.elim,hS.nn⟩ (fun b hb=>.inl hb) (hdrew.mono fun _ _ h=>h.elim) rfl (Kept.refl _ _)
end
end
section
section
variable {b0:Nat->Prop} {β:bd} {ob:cW} {P:Program} {E:Env} {all:Array Oper} {L:List Oper} {avs sl0:List AV}
theorem H6{listed:Array Bool}{i:Nat}:∀{n:Nat},i<=n->(∀q,q<n->listed.getD q true=decide (q<i))->NT listed n=n-i
 |0,hi,h=>by unfold NT;simp
 |n+1,hi,h=>by
  unfold NT;rw[NZ,List.countP_append];have hlast:=h n (by omega);by_cases hin:i<=n;have:=H6 (listed:=listed) hin (fun q hq=>h q (by omega));unfold NT at this;rw[this];have h2:listed.getD n true=false:=by rw[hlast];simp;omega
  simp only[List.countP_singleton,h2,Bool.not_false,sq];omega;have hi':i=n+1:=by omega
  subst hi';have:(List.range n).countP (fun i=>!listed.getD i true)=0:=by
   rw[List.countP_eq_zero];intro q hq;have hq':=yC.1 hq;have h3:listed.getD q true=true:=by rw[h q (by omega)];simp;omega
   simp only[h3];simp
  rw[this];have h2:listed.getD n true=true:=by rw[hlast];simp
  simp only[List.countP_singleton,h2];simp
theorem Ck{listed:Array Bool}{j:Nat}(hj:j<listed.size):De (fun q=>listed.getD q false) (fun q=>(listed.setIfInBounds j true).getD q false) j where
 new:=by simp[hj]
 old:=fun i hi=>by exact OM false (Ij hi)
theorem CR{listed:Array Bool}{j:Nat}{o:Oper}(hj:all.toList[j]?=some o)(hr:∀e∈o.after,Region.binds .any e=true->listed.getD e.on false=true)(h:eV all (fun q=>listed.getD q false)):eV all (fun q=>(listed.setIfInBounds j true).getD q false):=by
 intro i oi hi hs e he hb;by_cases hij:i=j;subst hij;rw[hj]at hi;cases hi;exact getD_set_true (hr e he hb);have hs':listed.getD i false=true:=by have:=OM (listed:=listed) false (Ij hij);dsimp only at hs;rw[this]at hs;exact hs
 exact getD_set_true (h i oi hi hs' e he hb)
theorem Lc{m np:Nat}{w0:World}{a0:Act}(hA:iw P E)(h:Ctx P E all L avs sl0 ob)(hc:PK all m)(hdst:∀(i:Nat) o,all[i]?=some o->uU np o=true)(hL:L=all.toList.take m){Q:Exit->Act->World->Prop}(hQ:∀c a w,¬Q (.panic c) a w)(hQo:∀a w,¬Q .outgrown a w)
  (hsw:∀(fuel:Nat) (listed:Array Bool) (a:Act) (w:World),listed.size=all.size->(∀q,q<all.size->listed.getD q true=decide (q<L.length))->NT listed all.size<=fuel->HN b0 β ob w0 L avs sl0 (fun q=>listed.getD q false) w a.tmps->Kept np a0 a->wpAny P .any all Q fuel listed a w) :
  ∀(fuel:Nat) (listed:Array Bool) (a:Act) (w:World),listed.size=all.size->NT listed all.size<=fuel->eV all (fun q=>listed.getD q false)->(∀q,L.length<=q->q<all.size->listed.getD q true=false) ->
   HN b0 β ob w0 L avs sl0 (fun q=>listed.getD q false) w a.tmps->Kept np a0 a->wpAny P .any all Q fuel listed a w:=by
 intro fuel
 induction fuel with
 |zero=>
  intro listed a w hsz hu hcl hlate hM hd;refine hsw 0 listed a w hsz (fun q hq=>?_) hu hM hd;unfold NT at hu;have:=List.countP_eq_zero.1 (Nat.le_zero.1 hu) q (yC.2 hq);have ht:listed.getD q true=true:=by simpa using this
  rw[ht];rcases iQ q L.length with h'|h';simp[h'];have:=hlate q h' hq;rw[ht]at this;cases this
 |succ fuel ih=>
  intro listed a w hsz hu hcl hlate hM hd;have hLlen:L.length<=all.size:=by rw[hL];simp;omega
  have hft:∀{q},q<all.size->listed.getD q false=listed.getD q true:=by
   intro q hq;have:q<listed.size:=by omega
   simp[this]
  rcases least (fun q=>listed.getD q false) L.length with hall|⟨i,hi,hin,hmin⟩;refine hsw (fuel+1) listed a w hsz (fun q hq=>?_) hu hM hd;rcases iQ q L.length with h'|h';have:=hall q h';rw[<-hft hq,this];simp[h'];rw[hlate q h' hq];simp;omega
  .have hLi:=c6 hi;generalize L[i]=oi at hLi;have hiL:=h.at hLi;have hiA:all[i]?=some oi:=by simpa using hiL
   have hilt:i<all.size:=by omega
   have hpre:∀e∈oi.after,Region.binds .any e=true->listed.getD e.on false=true:=fun e he hb=>hmin e.on (hc.edge i oi hiL e he hb);have hunl:listed.getD i true=false:=by rw[<-hft hilt];exact hin
   have hready:i∈Region.ready .any all listed:=ON.2 ⟨hunl,oi,hiA,hpre⟩
   -- one of the first is done
   have next:∀{j:Nat} {oj:Oper} {a':Act} {w':World},L[j]?=some oj->listed.getD j true=false->(∀e∈oj.after,Region.binds .any e=true->listed.getD e.on false=true) ->
     HN b0 β ob w0 L avs sl0 (fun q=>(listed.setIfInBounds j true).getD q false) w' a'.tmps->Kept np a a'->wpAny P .any all Q fuel (listed.setIfInBounds j true) a' w':=by
    intro j oj a' w' hj hjun hr hM' hd';have hjl:j<L.length:=(tR.1 hj).1;refine ih (listed.setIfInBounds j true) a' w' (by simpa using hsz) ?_ (CR (h.at hj) hr hcl) (fun q hq hqs=>?_) hM' (hd.trans hd');have:=JA (n:=all.size) (show j<all.size by omega) hsz hjun;omega;rw[OM true (by omega)];exact hlate q hq hqs
   cases hli:nz oi with
   |true=>
    have hM':=hM;obtain⟨f,hR,_,_⟩:=hM';obtain⟨b,hwb,hst⟩:=h.step i oi hLi;have hgn:oi.guard=none:=by unfold nz at hli;split at hli<;>first|assumption|cases hli
    have hb:b=true:=by unfold uN at hwb;rw[hgn]at hwb;cases hwb;rfl
    subst hb;simp only[sq]at hst;obtain⟨C,hC,hk,_,_,_⟩:=hst;have hk':=h.value hcl hLi hin hpre hk;obtain⟨_,v,hrun⟩:=Ed hA hR hli hk';have hwt:Region.wanted oi (yielded all a.tmps)=true:=by simp[Region.wanted,hgn]
    have hop:=hM.op hA h hcl (Ck (show i<listed.size by omega)) hLi hin hpre;rw[aa hwt]at hop;have hmid:=hop (fun a' w'=>HN b0 β ob w0 L avs sl0 (fun q=>(listed.setIfInBounds i true).getD q false) w' a'.tmps) Q fun v w' hv=>by rw[nj];exact hv
    simp only[Oper.wp,hrun w,Oper.upon]at hmid;refine wpAny_first hiA (Region.noSelect_spec hc.nosel) (fun c a w hp=>absurd hp (hQ _ _ _)) fuel listed a w (fun j oj hj hji hjun hno=>?_) hready (.inl ⟨hwt,hrun⟩) (next hLi hunl hpre hmid ((Kept.refl np a).put (hdst _ _ hiA) v));have hjL:all.toList[j]?=some oj:=by simpa using hj
    have him:i<m:=by rw[hL]at hi;simp at hi;omega
    rcases hc.light j i oj oi hjL hiL him hli hji with h1|⟨e,he,hb,heq⟩|h1;have:=ky (S:=fun q=>listed.getD q false=true) hc.edge (fun j' o' hj' hs'=>hcl j' o' hj' hs') i j oi hiL hpre h1;have hjlt:j<all.size:=(NK.1 hj).1;rw[hft hjlt,hjun]at this;cases this;exact absurd heq (hno e he hb);exact h1
   |false=>
    refine⟨fun h0=>(by rw[h0]at hready;cases hready),fun j hj=>?_⟩;obtain⟨hjun,oj,hj2,hj3⟩:=ON.1 hj;have hjlt:j<all.size:=(NK.1 hj2).1;have hjL:all.toList[j]?=some oj:=by simpa using hj2
    by_cases hjl:j<L.length
    case neg=>
     have hjm:m<=j:=by rw[hL]at hjl;simp at hjl;omega
     rcases hc.late i j oi oj hiL hjL hjm (by omega) with h1|⟨_,h1⟩|⟨hjm',him,hsw1,hsw2⟩;exfalso;have:=ky (S:=fun q=>listed.getD q false=true) hc.edge (fun j' o' hj' hs'=>hcl j' o' hj' hs') j i oj hjL hj3 h1;rw[hin]at this;cases this;rw[hli]at h1;cases h1
     .subst hjm';have hLm:L.length=j:=by rw[hL];simp;omega
      obtain⟨hgi,⟨ti,ni,ci,hoi⟩,⟨di,hdi⟩,hgj,hdj,tj,p,v,hoj,hplain,iq,oq,hq0,hgq,hdq,tq,xq,fq,hoq⟩:=Gk hsw1;have hiq:iq<j:=by have:=(tR.1 hq0).1;simp at this;omega
      have hLq:L[iq]?=some oq:=by rw[hL];exact hq0
      have hne:iq≠i:=fun e=>by subst e;rw[hLi]at hLq;cases hLq;rw[hoi]at hoq;cases hoq
      have hrest:∀q,q<j->q≠i->listed.getD q false=true:=fun q hq hqi=>by rcases iQ q i with h'|h';exact hmin q h';exact ky (S:=fun q=>listed.getD q false=true) hc.edge (fun j' o' hj' hs'=>hcl j' o' hj' hs') j q oj hjL hj3 ((AQ hsw2 (q:=q) (by omega)).1 (by omega) hq)
      -- the slice
      have hM':=hM;obtain⟨f,hR,_,_⟩:=hM';obtain⟨b,hwb,hst⟩:=h.step i oi hLi;have hb:b=true:=by unfold uN at hwb;rw[hgi]at hwb;cases hwb;rfl
      subst hb;simp only[sq]at hst;obtain⟨C,hC,hk,_,_,_⟩:=hst;have hk':=h.value hcl hLi hin hpre hk;obtain⟨N,cells,te,hrun⟩:=MJ hA.env hR hoi hk';have hwt:Region.wanted oi (yielded all a.tmps)=true:=by simp[Region.wanted,hgi]
      have hop:=hM.op hA h hcl (Ck (show i<listed.size by omega)) hLi hin hpre;rw[aa hwt]at hop;have hmid:=hop (fun a' w'=>HN b0 β ob w0 L avs sl0 (fun q=>(listed.setIfInBounds i true).getD q false) w' a'.tmps) Q fun v w' hv=>by rw[nj];exact hv
      simp only[Oper.wp,hrun w,Oper.upon]at hmid;have hu1:=JA (n:=all.size) hilt hsz hunl;have hij:i≠j:=by omega
      have hjrdy:j∈Region.ready .any all (listed.setIfInBounds i true):=ready_mono hj (Ij hij);have H:=hsw fuel (listed.setIfInBounds i true) _ _ (by simpa using hsz) (fun q hq=>by
       by_cases hqi:i=q;subst hqi;have:i<listed.size:=by omega
       simp[this,hi];rw[OM true hqi];rcases iQ q j with h'|h';rw[<-hft hq,hrest q h' (Ij hqi)];simp[hLm,h'];rw[hlate q (by omega) hq];simp;omega) (by omega) hmid (hd.trans ((Kept.refl np a).put (hdst _ _ hiA) _))
      cases fuel with
      |zero=>exfalso;rw[H.1]at hjrdy;cases hjrdy
      |succ fuel=>
       have H2:=H.2 j hjrdy;unfold wpOp at H2 ⊢;rw[hj2]at H2 ⊢;dsimp only at H2 ⊢;have hwtj:∀tm,Region.wanted oj tm=true:=fun tm=>by simp[Region.wanted,hgj]
       rw[aa (hwtj _)]at H2 ⊢;have H3:=H2.resolve_right fun⟨_,a1,w1,h1⟩=>hQo a1 w1 h1
       -- where the store leads
       obtain⟨bq,hwq,hstq⟩:=h.step iq oq hLq;have hbq:bq=true:=by unfold uN at hwq;rw[hgq]at hwq;cases hwq;rfl
       subst hbq;simp only[sq]at hstq;obtain⟨Cq,_,hkq,_,_,_⟩:=hstq;obtain⟨hnq,hat⟩:=FC (b0:=b0) (β:=β) (w:=w) hoq hkq;have hpi:p≠di:=fun e=>hne (h.uniq iq i oq oi p hLq hLi hdq (e▸hdi));have hps:p<sl0.length->(jP L avs sl0 fun q=>listed.getD q false).getD p .any=avs.getD iq .any:=fun hlt=>by rw[gZ,aa hlt];unfold BC;rw[EC h.uniq hLq hdq];simp only[hrest iq hiq hne,pD];unfold Bc;rw[hnq];rfl
       have hevp:∀(a':Act),a'.eval (.tmp p)=a'.tmps.getD p undef:=fun a'=>by simp[Act.eval]
       have hev1:(a.put oi.dst (.slice (some ⟨w.heap.size,0,none⟩) N N)).eval (.tmp p)=a.eval (.tmp p):=by rw[hevp,hevp,nj,hdi];simp only[iH];simp[Pm (Ij hpi)]
       have hexec:∀a':Act,(execOp a'.eval oj)=(do Instr.storeAt tj (a'.eval (.tmp p)) v;pure .skip:Sem Next):=fun a'=>by unfold execOp;rw[hoj];rfl
       obtain⟨ad,hadv,hsp,cc,ee,ff,hheap⟩:∃ad,a.eval (.tmp p) = .pointer (some ad)/\ad.spot=none/\∃c e fr,w.heap[ad.block]?=some (.cells c e fr):=by
        by_cases hlt:p<sl0.length;have hsl:=hR.slot p;rw[hps hlt]at hsl;rw[hevp];exact hat hR.obs hsl;exfalso;have hun:a.eval (.tmp p)=undef:=by rw[hevp];have:=hR.size;rw[jl]at this;have hle:a.tmps.size<=p:=this▸Nat.le_of_not_lt hlt;simp[OU hle]
        simp only[Oper.wp,hexec,hev1,hun]at H3;simp[Instr.storeAt,Instr.sureAddr,undef,Go.stuck,Oper.upon]at H3
       simp only[Oper.wp,hexec,hev1,hadv]at H3;rw[u7]at H3;cases hr1:(Instr.storeAt tj (.pointer (some ad)) v).run P (w.alloc (.cells cells te)) with
       |ok u w2=>
        rw[hr1]at H3;simp only[u9,Dt,Oper.upon,hdj]at H3;obtain⟨w3,e1,e2,e3⟩:=H9 hplain hsp hheap hr1;subst e2;left;simp only[Oper.wp,hexec,hadv,u7,e1,u9,Dt,Oper.upon,hdj];have hcl2:=CR hjL hj3 hcl;have hin2:(listed.setIfInBounds j true).getD i false=false:=by rw[OM false (Ij hij)];exact hin
        have hir2:i∈Region.ready .any all (listed.setIfInBounds j true):=ready_mono hready hij;refine⟨fun h0=>(by rw[h0]at hir2;cases hir2),fun j2 hj2r=>?_⟩;obtain⟨g1,o2,g2,g3⟩:=ON.1 hj2r;have hj2lt:j2<all.size:=(NK.1 g2).1;have hj2i:j2=i:=by
         by_cases hj2j:j=j2;subst hj2j;have:j<listed.size:=by omega
         simp[this]at g1;rw[OM true hj2j]at g1;rcases iQ j2 j with h'|h';by_cases hx:j2=i;exact hx;have:=hrest j2 h' hx;rw[hft hj2lt,g1]at this;cases this;exfalso;have hb:=((AQ hsw2 hj2lt).2 (by omega)).1;have:=ky (S:=fun q=>(listed.setIfInBounds j true).getD q false=true) hc.edge (fun j' o' hj' hs'=>hcl2 j' o' hj' hs') j2 i o2 (by simpa using g2) g3 hb;rw[hin2]at this;cases this
        subst hj2i;unfold wpOp;rw[hiA];dsimp only;have hwt2:∀tm,Region.wanted oi tm=true:=fun tm=>by simp[Region.wanted,hgi]
        rw[aa (hwt2 _)];left;have hap:(a.put none undef)=a:=rfl;simp only[Oper.wp,hap,hrun w3,Oper.upon,e3];rw[<-Mh hij];exact H3
       |halt hh ww=>
        exfalso;rw[hr1]at H3;simp only[Result.andThen,Oper.upon]at H3;cases hh<;>first
         |exact hQ _ _ _ H3
         |exact H3
    have hLj:L[j]?=some oj:=by rw[hL]at hjl ⊢;rw[D5,aa (by simp at hjl;omega)];exact hjL
    have hjf:listed.getD j false=false:=by rw[hft hjlt];exact hjun
    have hop:=hM.op hA h hcl (Ck (show j<listed.size by omega)) hLj hjf hj3;unfold wpOp;rw[hj2];dsimp only;split;.rename_i hw;rw[aa hw]at hop;exact .inl (hop _ Q fun v w' hv=>next hLj hjun hj3 (by rw[nj];exact hv) ((Kept.refl np a).put (hdst _ _ hj2) v))
    .rename_i hw;rw[ab hw]at hop;exact next hLj hjun hj3 (by rw[nj];exact hop) ((Kept.refl np a).put (hdst _ _ hj2) undef)
theorem IW(hA:iw P E)(hP:P.follows .mixedOrders=true):Nu P E:=by
 intro np s ops m k r id n st a w b0 β hcut hdst hr hC hS;have hc:=Rs hcut;refine wp_region_any hP ?_;obtain⟨avs,n',hn',hlen,hr',hstep⟩:=trace (P:=P) (f0:=st.f) (ob:=st.ob) (ops.toList.take m) n st.sl hC hr;have hctx:Ctx P E ops (ops.toList.take m) avs st.sl st.ob:=⟨⟨m,rfl⟩,hlen.symm,(JB hc.uniq).take m,hstep,hc.edge,hc.ord,hS.nn⟩;have hdrew:bM (fun _=>False) w { w with drawn:=w.drawn+1 }:=bM.drew _ w;have hS0:SR b0 β st.ob { w with drawn:=w.drawn+1 } st.sl a.tmps F0:=hS.sr.world hdrew fun _ _ h=>h.elim;have hsem0:jP (ops.toList.take m) avs st.sl (fun q=>(Array.replicate ops.size false).getD q false)=st.sl:=by
  apply LQ;intro t;have hg:=@gZ (ops.toList.take m) avs st.sl (fun q=>(Array.replicate ops.size false).getD q false) t;by_cases ht:t<st.sl.length;rw[aa ht]at hg;have hv:BC (ops.toList.take m) avs st.sl (fun q=>(Array.replicate ops.size false).getD q false) t=st.sl.getD t .any:=by
   unfold BC;split;rename_i i _;have:(Array.replicate ops.size false).getD i false=false:=by by_cases hi:i<ops.size<;>simp[hi]
   simp only[this,uP];rfl
  rw[hv]at hg;have hl:t<(jP (ops.toList.take m) avs st.sl (fun q=>(Array.replicate ops.size false).getD q false)).length:=by rw[jl];exact ht
  rw[c6 hl,c6 ht];simp only[List.getD,c6 hl,c6 ht,JL]at hg;rw[hg];rw[qA (by rw[jl];omega),qA (by omega)]
 have hfull:(((ops.toList.take m).zip avs).foldl putL st.sl)=kO (ops.toList.take m) avs st.sl (ops.toList.take m).length:=by
  unfold kO;have hz:((ops.toList.take m).zip avs).length<=(ops.toList.take m).length:=by rw[List.length_zip];omega
  rw[BQ hz]
 refine Lc (w0:={ w with drawn:=w.drawn+1 }) (a0:=a) hA hctx hc hdst rfl (fun c a w h=>h) (fun a w h=>h) (fun fuel listed a' w' hsz hli hun hM hd=>?_) ops.size _ a _ (by simp) ?_ (fun j o hj hs=>?_) (fun q _ hq=>by simp[hq]) ⟨F0,by rw[hsem0];exact hS0,(fun i b hb=>by cases hb),bM.refl _ _⟩ (Kept.refl _ _)
 .-- the later ones
  obtain⟨f,hR,hf,hsame⟩:=hM;have hsz2:=hR.size;have hLl:(ops.toList.take m).length<=ops.size:=by simp;omega
  have hSt:∀i,i<(ops.toList.take m).length->listed.getD i false=true:=fun i hi=>by
   have h1:=hli i (by omega);have:i<listed.size:=by omega
   have h2:listed.getD i false=listed.getD i true:=by simp[this]
   rw[h2,h1];exact kp hi
  have hslots:∀t,(jP (ops.toList.take m) avs st.sl fun q=>listed.getD q false).getD t .any=(((ops.toList.take m).zip avs).foldl putL st.sl).getD t .any\/∃l:List Oper,(∀o∈l,o∈ops.toList.take m)/\cR ((((ops.toList.take m).zip avs).foldl putL st.sl).getD t .any)=true/\(jP (ops.toList.take m) avs st.sl fun q=>listed.getD q false).getD t .any=vd l t ((((ops.toList.take m).zip avs).foldl putL st.sl).getD t .any):=by
   intro t;rw[gZ];rw[hfull];by_cases ht:t<st.sl.length
   .rw[aa ht,wP hctx.uniq hctx.len t ht _ (dD _)];unfold BC;cases hw:wr (ops.toList.take m) t with
    |none=>exact .inl rfl
    |some i=>
     obtain⟨oi,h1,h2⟩:=rS hw;have hil:=(tR.1 h1).1;simp only;rw[hSt i hil,aa hil];simp only[pD];unfold Bc;cases hh:cR (avs.getD i .any) with
     |false=>exact .inl rfl
     |true=>right;exact⟨cL (ops.toList.take m) (fun q=>listed.getD q false) i,fun o ho=>by obtain⟨j,h3,_⟩:=tl.1 ho;exact NL h3,rfl,rfl⟩
   rw[ab ht];left;rw[List.getD,qA (show(kO (ops.toList.take m) avs st.sl (ops.toList.take m).length).length<=t by rw[sX];omega)];rfl
  have hnews:∀t,cR ((((ops.toList.take m).zip avs).foldl putL st.sl).getD t .any)=true->∃o∈ops.toList.take m,o.dst=some t:=by
   intro t ht;rw[hfull]at ht;by_cases hlt:t<st.sl.length
   .rw[wP hctx.uniq hctx.len t hlt _ (dD _)]at ht;cases hw:wr (ops.toList.take m) t with
    |none=>rw[hw]at ht;simp only at ht;rw[hS.nn t]at ht;cases ht
    |some i=>obtain⟨oi,h1,h2⟩:=rS hw;exact⟨oi,NL h1,h2⟩
   have:(kO (ops.toList.take m) avs st.sl (ops.toList.take m).length).getD t .any = .any:=by rw[List.getD,qA (show(kO (ops.toList.take m) avs st.sl (ops.toList.take m).length).length<=t by rw[sX];omega)];rfl
   rw[this]at ht;cases ht
  obtain⟨β',hRel,hfs,hown⟩:=pY (L:=ops.toList.take m) (w0:={ w with drawn:=w.drawn+1 }) (β0:=β) (ob0:=st.ob) (ops.toList.take m) { f:=st.f,sl:=((ops.toList.take m).zip avs).foldl putL st.sl,ob:=st.ob } _ f β hR (by rw[jl,hfull];simp only;rw[sX])
   (by have:=hc.uniq;refine(List.Sublist.filterMap _ (Mp m ops.toList)).nodup this) (fun o ho=>ho) hslots hnews hf (fun b hb=>.inl hb)
  have hi2:(ops.toList.drop m)=(ops.toList.drop (ops.toList.take m).length):=by rw[lE];rcases Nat.le_total m ops.toList.length with h'|h';rw[Pk h'];rw[Nat.min_eq_right h',lD h',lD (dD _)]
  have hunl:=H6 hLl hli;have hsameO:bM (dd β st.ob) w w':=(hdrew.trans hsame fun _ _ h=>h).mono fun _ _ h=>h.elim;refine JR (m:=m) hA hc hdst (ops.toList.drop m) (ops.toList.take m).length n' β' _ a' w' β st w a n fuel listed hi2.symm ?_ hsz hli ?_ hr' hn' hC hRel (fun b hb=>hown b hb) hsameO hfs hd;rw[lE];rcases Nat.le_total m ops.toList.length with h'|h';left;omega;right;rw[Nat.min_eq_right h'];simp;rw[F7];rw[lE]at hunl;simp only[OT]at hunl ⊢;omega
 have:=H6 (listed:=Array.replicate ops.size false) (i:=0) (n:=ops.size) (by omega) (fun q hq=>by simp[hq]);omega;have:(Array.replicate ops.size false).getD j false=false:=by by_cases hi:j<ops.size<;>simp[hi]
 dsimp only at hs;rw[this]at hs;cases hs
end
end
section
section
variable {b0:Nat->Prop} {β:bd} {ob:cW} {w:World}
theorem Es{ow:Bool}{R:Type}:∀{τ:Ty} {k:τ.den->List AV->Option R} {r:R},da ob ow τ [] k=some r->False
 |.pair a b,k,r,h=>by simp only[da]at h;exact Es (τ:=a) h
 |.list e,k,r,h=>by simp[da]at h
 |.int _,k,r,h=>by simp[da]at h
 |.bool,k,r,h=>by simp[da]at h
theorem JF{R:Type}:∀{s:Sh} {ob:cW} {k:s.den->List AV->cW->Option R} {r:R},sV ob s [] k=some r->False
 |.d τ,ob,k,r,h=>Es (by simpa only[sV]using h)
 |.own τ,ob,k,r,h=>by simp[sV]at h
 |.agg a b,ob,k,r,h=>by simp only[sV]at h;exact JF (s:=a) h
theorem LW.len{bad:Nat->Prop}:∀{s:Sh} {x:s.den} {vs:List Value} {bs:Ln},LW w bad s x vs bs->0<vs.length/\((∃a b,s = .agg a b)\/(∃a b,s = .d (.pair a b))->2<=vs.length)
 |.d τ,x,vs,bs,h=>by obtain⟨_,he⟩:=h;have:=dK he;have hp:=τ.size_pos;refine⟨by omega,?_⟩;rintro(⟨a,b,h⟩|⟨a,b,h⟩);cases h;cases h;have:=a.size_pos;have:=b.size_pos;simp only[Ty.size]at *;omega
 |.own τ,l,vs,bs,h=>by obtain⟨v,rfl,_⟩:=h;refine⟨by simp,?_⟩;rintro(⟨a,b,h⟩|⟨a,b,h⟩)<;>cases h
 |.agg a b,x,vs,bs,h=>by obtain⟨v1,v2,b1,b2,rfl,rfl,h1,h2⟩:=h;have:=(LW.len h1).1;have:=(LW.len h2).1;simp only[ey];exact⟨by omega,fun _=>by omega⟩
theorem Kh{bad:Nat->Prop}{a:AV}{v:Value}{bs:Ln}(h:c9 β ob w bad a v bs)(hne:cellsOf a≠[])(h2:2<=v.cells.toList.length):v = .agg v.cells:=by
 have hl:=(ln h hne).len;cases a with
 |agg cs=>obtain⟨vs,rfl,_⟩:=h;simp[Value.cells]
 |d τ x=>
  obtain⟨_,cs,hv,he⟩:=h;cases τ with
  |pair a b=>simp only[kj]at hv;subst hv;simp[Value.cells]
  |_=>exfalso;simp only[cellsOf,nM,gC]at hl;omega
 |any=>simp[cellsOf]at hne
 |arr n τ l=>simp[cellsOf]at hne
 |tup vs=>simp[cellsOf]at hne
 |_=>exfalso;simp only[cellsOf,gC]at hl;omega
theorem RQ{R:Type}{ob0:cW}{av:Nat->Prop}(hO:rM b0 β ob0 w av){s:Sh}{ob:cW}(hp:Part ob ob0){a:AV}{k:s.den->cW->Option R}{K:s.den->List AV->cW->Option R}(hK:∀x rest ob' z,K x rest ob'=some z->rest=[]/\k x ob'=some z){r:R}{u:Value}(hk:sV ob s (wy s a) K=some r)
  (h:c9 β ob0 w av a u []):∃x ob' rk ok bs,k x ob'=some r/\mJ β ob0 ob ob' rk ok bs/\∀bad',Calm β ob0 w av rk bad'->jf noβ [] w bad' (nY s x) u bs:=by
 have many:wy s a=cellsOf a->((∃a b,s = .agg a b)\/(∃a b,s = .d (.pair a b)))->∃x ob' rk ok bs,k x ob'=some r/\mJ β ob0 ob ob' rk ok bs/\∀bad',Calm β ob0 w av rk bad'->jf noβ [] w bad' (nY s x) u bs:=by
  intro hc hs;rw[hc]at hk;have hne:cellsOf a≠[]:=fun he=>by rw[he]at hk;exact JF hk
  obtain⟨x,rest,ob',v1,v2,rk,ok,bs,h1,h2,h3,h4,h5⟩:=Q0 hO hp hk (ln h hne);obtain⟨hrest,h1'⟩:=hK _ _ _ _ h1;cases rest with
  |cons _ _=>cases hrest
  |nil=>
   cases h3;rw[s7]at h2;refine⟨x,ob',rk,ok,bs,h1',h4,fun bad' hb=>?_⟩;have hR:=h5 bad' hb;have hu:u = .agg u.cells:=Kh h hne (by rw[h2];exact hR.len.2 hs);rcases hs with⟨a',b',rfl⟩|⟨a',b',rfl⟩
   refine⟨v1,?_,hR.cells⟩;rw[hu,<-h2];obtain⟨rfl,he⟩:=hR;refine⟨rfl,v1,?_,he⟩;simp only[kj];rw[hu,<-h2]
 have one:wy s a=[a]->(¬∃a b,s = .agg a b)->(¬∃a b,s = .d (.pair a b))->∃x ob' rk ok bs,k x ob'=some r/\mJ β ob0 ob ob' rk ok bs/\∀bad',Calm β ob0 w av rk bad'->jf noβ [] w bad' (nY s x) u bs:=by
  intro hc hs1 hs2;rw[hc]at hk;have hnt:∀vs,a ≠ .tup vs:=by
   rintro vs rfl;cases s with
   |d τ=>
    simp only[sV]at hk;cases τ with
    |pair a b=>exact hs2 ⟨a,b,rfl⟩
    |list e=>simp[da,pr]at hk
    |int κ=>simp[da]at hk
    |bool=>simp[da]at hk
   |own τ=>simp[sV]at hk
   |agg a b=>exact hs1 ⟨a,b,rfl⟩
  have hv1:=Vs.cons (NS hnt h) (Vs.nil (r:=jf β ob0 w av));rw[s7]at hv1;obtain⟨x,rest,ob',v1,v2,rk,ok,bs,h1,h2,h3,h4,h5⟩:=Q0 hO hp hk hv1;obtain⟨hrest,h1'⟩:=hK _ _ _ _ h1;cases rest with
  |cons _ _=>cases hrest
  |nil=>
   cases h3;rw[s7]at h2;subst h2;refine⟨x,ob',rk,ok,bs,h1',h4,fun bad' hb=>?_⟩;have hR:=h5 bad' hb;cases s with
   |d τ=>
    obtain⟨rfl,he⟩:=hR;refine⟨rfl,[u],?_,he⟩;cases τ with
    |pair a b=>exact absurd ⟨a,b,rfl⟩ hs2
    |_=>rfl
   |own τ=>obtain⟨v,hv,hn⟩:=hR;simp only[Im,Ko]at hv;subst hv;exact hn
   |agg a b=>exact absurd ⟨a,b,rfl⟩ hs1
 cases s with
 |agg a b=>exact many rfl (.inl ⟨a,b,rfl⟩)
 |own τ=>exact one rfl (by rintro⟨_,_,h⟩;cases h) (by rintro⟨_,_,h⟩;cases h)
 |d τ=>
  cases τ with
  |pair a b=>exact many rfl (.inr ⟨a,b,rfl⟩)
  |_=>exact one rfl (by rintro⟨_,_,h⟩;cases h) (by rintro⟨_,_,h⟩;cases h)
theorem QB{R:Type}{ob0:cW}{av:Nat->Prop}(hO:rM b0 β ob0 w av):∀{rs:List Sh} {ob:cW},Part ob ob0->∀{as:List AV} {us:List Value} {k:eU rs->cW->Option R} {r:R},FH ob rs as k=some r->Vs (c9 β ob0 w av) as us [] ->
  ∃x ob' rk ok bs,k x ob'=some r/\mJ β ob0 ob ob' rk ok bs/\∀bad',Calm β ob0 w av rk bad'->Vs (jf noβ [] w bad') (gL rs x) us bs
 |[],ob,hp,as,us,k,r,hk,h=>by
  cases as with
  |cons _ _=>simp[FH]at hk
  |nil=>cases h;exact⟨(),ob,[],[],[],hk,mJ.refl _ _ _,fun _ _=>.nil⟩
 |[s],ob,hp,as,us,k,r,hk,h=>by
  cases as with
  |nil=>simp[FH]at hk
  |cons a as=>
   cases as with
   |cons _ _=>simp[FH]at hk
   |nil=>obtain⟨u,ur,b,br,rfl,hb,h1,h2⟩:=h.split;have hb':=hb.symm;rw[N6]at hb';obtain⟨rfl,rfl⟩:=hb';cases h2;obtain⟨x,ob',rk,ok,bs,g1,g2,g3⟩:=RQ hO hp (k:=k) (K:=fun x r ob=>match r with|[]=>k x ob|_=>none) (fun x rest ob' z h=>by cases rest with|nil=>exact⟨rfl,h⟩|cons _ _=>cases h) hk h1;exact⟨x,ob',rk,ok,bs,g1,g2,fun bad' hb=>by have:=Vs.cons (g3 bad' hb) .nil;rwa [s7]at this⟩
 |s::t::rs,ob,hp,as,us,k,r,hk,h=>by
  cases as with
  |nil=>simp[FH]at hk
  |cons a as=>obtain⟨u,ur,b,br,rfl,hb,h1,h2⟩:=h.split;have hb':=hb.symm;rw[N6]at hb';obtain⟨rfl,rfl⟩:=hb';obtain⟨x,ob1,rk,ok,bs,g1,g2,g3⟩:=RQ hO hp (k:=fun x ob=>FH ob (t::rs) as fun y ob=>k (x,y) ob) (K:=fun x r' ob=>match r' with|[]=>FH ob (t::rs) as fun y ob=>k (x,y) ob|_=>none) (fun x rest ob' z h=>by cases rest with|nil=>exact⟨rfl,h⟩|cons _ _=>cases h) hk h1;obtain⟨y,ob',rk',ok',bs',e1,e2,e3⟩:=QB hO (g2.part.trans hp) g1 h2;exact⟨(x,y),ob',_,_,_,e1,g2.trans hO e2,fun bad' hb=>Vs.cons (g3 bad' (hb.sub fun k hk=>by simp[hk])) (e3 bad' (hb.sub fun k hk=>by simp[hk]))⟩
theorem Oe{R:Type}{ob0:cW}{av:Nat->Prop}(hO:rM b0 β ob0 w av){sl:List AV}{tmps:Array Value}(hsl:∀i,c9 β ob0 w av (sl.getD i .any) (tmps.getD i undef) []):∀{ms:List Mode} {i:Nat} {ss:List Sh} {ob:cW},Part ob ob0->∀{vs:List Value} {k:eU ss->Option R} {r:R},
  (∀j v,vs[j]?=some v->tmps.getD (i+j) undef=v)->ms.length<=vs.length->q9 ob sl ms i ss k=some r ->
  ∃x ob' rk ok bs,k x=some r/\mJ β ob0 ob ob' rk ok bs/\∀bad',Calm β ob0 w av rk bad'->Vs (c9 noβ [] w bad') ((gL ss x).map Au) (mF ms vs) bs
 |[],i,ss,ob,hp,vs,k,r,hv,hl,hk=>by
  cases ss with
  |cons _ _=>simp[q9]at hk
  |nil=>exact⟨(),ob,[],[],[],by simpa[q9]using hk,mJ.refl _ _ _,fun _ _=>by simp only[gL,JO,mF];exact .nil⟩
 |m::ms,i,ss,ob,hp,vs,k,r,hv,hl,hk=>by
  cases vs with
  |nil=>simp at hl
  |cons v vs=>
   have hv0:tmps.getD i undef=v:=by have:=hv 0 v rfl;simpa using this
   have hv':∀j u,vs[j]?=some u->tmps.getD (i+1+j) undef=u:=fun j u hj=>by have:=hv (j+1) u (by simpa using hj);rw[show i+1+j=i+(j+1) from by omega];exact this
   have hl':ms.length<=vs.length:=by simpa using hl
   have skip:(∀s,m ≠ .io s)->∃x ob' rk ok bs,k x=some r/\mJ β ob0 ob ob' rk ok bs/\∀bad',Calm β ob0 w av rk bad'->Vs (c9 noβ [] w bad') ((gL ss x).map Au) (mF (m::ms) (v::vs)) bs:=by
    intro hm;have hk':q9 ob sl ms (i+1) ss k=some r:=by cases m<;>first|(simp only[q9]at hk;exact hk)|exact absurd rfl (hm _)
    obtain⟨x,ob',rk,ok,bs,h1,h2,h3⟩:=Oe hO hsl (ms:=ms) hp hv' hl' hk';have he:mF (m::ms) (v::vs)=mF ms vs:=by cases m<;>first|rfl|exact absurd rfl (hm _)
    exact⟨x,ob',rk,ok,bs,h1,h2,by rw[he];exact h3⟩
   cases m with
   |ro=>exact skip (by simp)
   |mv s=>exact skip (by simp)
   |io s0=>
    have hsl0:=hsl i;rw[hv0]at hsl0
    match ss,k,hk with
    |[],k,hk=>simp[q9]at hk
    |[s],k,hk=>simp only[q9]at hk;obtain⟨x,ob1,rk,ok,bs,g1,g2,g3,_⟩:=Ps hO hp hk hsl0;obtain⟨y,ob',rk',ok',bs',e1,e2,e3⟩:=Oe hO hsl (ms:=ms) (ss:=[]) (g2.part.trans hp) hv' hl' g1;refine⟨x,ob',_,_,_,e1,g2.trans hO e2,fun bad' hb=>?_⟩;have:=Vs.cons (g3 bad' (hb.sub fun k hk=>by simp[hk])) (e3 bad' (hb.sub fun k hk=>by simp[hk]));simpa only[gL,xe,JO,mF]using this
    |s::t::rs,k,hk=>simp only[q9]at hk;obtain⟨x,ob1,rk,ok,bs,g1,g2,g3,_⟩:=Ps hO hp hk hsl0;obtain⟨y,ob',rk',ok',bs',e1,e2,e3⟩:=Oe hO hsl (ms:=ms) (g2.part.trans hp) hv' hl' g1;refine⟨(x,y),ob',_,_,_,e1,g2.trans hO e2,fun bad' hb=>?_⟩;have:=Vs.cons (g3 bad' (hb.sub fun k hk=>by simp[hk])) (e3 bad' (hb.sub fun k hk=>by simp[hk]));simpa only[gL,xe,mF]using this
theorem BN{P:Program}{R:Type}{E:Env}(hA:iw P E){st:St}{tmps:Array Value}(hR:Rel b0 β st w tmps){g:ResultVar->Sem Value}(hg1:∀t,g (.tmp t)=pure (tmps.getD t undef))(hg2:∀a t,g (.cell a t)=do loadVar t (<-asAddr (tmps.getD a undef))):
  ∀{l:List ResultVar} {k:List AV->Option R} {r:R},qw E st l k=some r ->
  ∃as us,k as=some r/\(l.mapM g).run P w = .ok us w/\Vs (c9 β st.ob w (Av b0 β st.ob F0)) as us []
 |[],k,r,hk=>⟨[],[],by simpa[qw]using hk,by simp,.nil⟩
 |.tmp t::l,k,r,hk=>by simp only[qw]at hk;obtain⟨as,us,h1,h2,h3⟩:=BN hA hR hg1 hg2 hk;refine⟨st.sl.getD t .any::as,tmps.getD t undef::us,h1,?_,?_⟩;rw[List.mapM_cons,hg1];simp only[u7,Dt,u9,h2];have:=Vs.cons (hR.sr.slot t) h3;simpa using this
 |.cell a t::l,k,r,hk=>by
  simp only[qw]at hk;obtain⟨av,u,g1,g2,g3⟩:=Cr (P:=P) hA.env hA.ot.agg hR.sr.obs (fun b hb=>.inr (.inl hb)) hk (hR.sr.slot a);obtain⟨as,us,h1,h2,h3⟩:=BN hA hR hg1 hg2 g1;refine⟨av::as,u::us,h1,?_,?_⟩
  .rw[List.mapM_cons,hg2];obtain⟨ad,had⟩:∃ad,tmps.getD a undef = .pointer (some ad):=by have hsl:=hR.sr.slot a;unfold AT at hk;split at hk;rename_i hx;rw[hx]at hsl;obtain⟨_,b,c,cs,_,_,hv⟩:=hsl;exact⟨_,hv⟩;rename_i hx;rw[hx]at hsl;obtain⟨_,_,_,b,c,_,_,_,hv⟩:=hsl;exact⟨_,hv⟩;rename_i hx;rw[hx]at hsl;obtain⟨_,ad,cs,hv,_⟩:=hsl;exact⟨_,hv⟩;rename_i hx;rw[hx]at hsl;obtain⟨_,_,_,b,o,c,_,_,hv⟩:=hsl;exact⟨_,hv⟩;cases hk
   rw[had]at g2 ⊢;have g2':(do loadVar t (<-asAddr (.pointer (some ad))):Sem Value).run P w = .ok u w:=by
    simp only[Instr.loadAt,Instr.sureAddr,asAddr]at g2 ⊢
    first|exact g2|simpa using g2
   rw[u7,g2'];simp only[u7,Dt,u9,h2]
  have:=Vs.cons g3 h3;simpa using this
end
end
section
section
variable {b0:Nat->Prop} {β:bd} {ob:cW} {w:World}
theorem vP{bad:Nat->Prop}:∀{as:List AV} {i:Nat} {β:bd} {ob:cW} {vs:List Value} {bs:Ln},rM b0 β ob w bad->lC b0 β ob w bs->Vs (c9 β ob w bad) as vs bs ->
  ∃β',iv b0 w bad bs β ob β' (ke ob as i).2/\Vs (c9 β' (ke ob as i).2 w bad) (ke ob as i).1 vs []/\∀a∈(ke ob as i).1,cR a=false
 |[],i,β,ob,vs,bs,hO,hl,h=>by cases h;exact⟨β,iv.refl hO [],.nil,by simp[ke]⟩
 |a::as,i,β,ob,vs,bs,hO,hl,h=>by obtain⟨v,vr,b,br,rfl,rfl,h1,h2⟩:=h.split;obtain⟨β1,n1,g1,f1⟩:=r9 (key:=Mx i) hO hl.left h1;obtain⟨β2,n2,g2,f2⟩:=vP (as:=as) (i:=i+1) n1.obs (hl.right n1) (h2.imp fun a v b _ hr=>hr.ext n1.ext);refine⟨β2,n1.trans n2,?_,?_⟩;have:=Vs.cons (c9.ext n2.ext g1) g2;simpa[ke]using this;intro c hc;simp only[ke,eR]at hc;rcases hc with rfl|hc;exact f1;exact f2 c hc
theorem yW:∀{as:List AV} {ob:cW} {i:Nat},(ke ob as i).1.length=as.length
 |[],ob,i=>rfl
 |a::as,ob,i=>by simp only[ke,pI];rw[yW]
theorem xC:∀{s t:List Sh} {x:eU s} {y:eU t},eP s t (Ei s t x y)=(x,y)
 |[],t,x,y=>rfl
 |[s],[],x,y=>rfl
 |[s],t::r,x,y=>rfl
 |s::b::r,t,x,y=>by have:=xC (s:=b::r) (t:=t) (x:=x.2) (y:=y);show(let (x',y'):=eP (b::r) t (Ei (b::r) t x.2 y);(((Ei (s::b::r) t x y).1,x'),y'))=(x,y);rw[this];rfl
theorem Fu{R:Type}{sl:List AV}:∀{ms:List Mode} {i:Nat} {ss:List Sh} {k:eU ss->Option R} {r:R},ms.any Mode.isIo=false->q9 ob sl ms i ss k=some r->∃x,k x=some r/\gL ss x=[]/\∀vs,mF ms vs=[]
 |[],i,ss,k,r,h,hk=>by
  cases ss with
  |nil=>exact⟨(),by simpa[q9]using hk,rfl,fun vs=>by cases vs<;>rfl⟩
  |cons _ _=>simp[q9]at hk
 |.io s::ms,i,ss,k,r,h,hk=>by simp[Mode.isIo]at h
 |.ro::ms,i,ss,k,r,h,hk=>by obtain⟨x,h1,h2,h3⟩:=Fu (ms:=ms) (i:=i+1) (by simpa[Mode.isIo]using h) (by simpa only[q9]using hk);exact⟨x,h1,h2,fun vs=>by cases vs<;>simp[mF,h3]⟩
 |.mv s::ms,i,ss,k,r,h,hk=>by obtain⟨x,h1,h2,h3⟩:=Fu (ms:=ms) (i:=i+1) (by simpa[Mode.isIo]using h) (by simpa only[q9]using hk);exact⟨x,h1,h2,fun vs=>by cases vs<;>simp[mF,h3]⟩
theorem lh:∀(c:Code),iW 0 c=true
 |.region _ ops _=>by simp only[iW,uQ];intro o _;unfold uU;split<;>simp
 |.seq a b=>by simp only[iW,lh a,lh b,Pf]
 |.cond _ a b=>by simp only[iW,lh a,lh b,Pf]
 |.block _ c=>by simp only[iW,lh c]
 |.loop c=>by simp only[iW,lh c]
 |.skip=>rfl
 |.exit _=>rfl
 |.ret=>rfl
 |.scope _=>rfl
 |.refuse _=>rfl
 |.label ..=>rfl
 |.goto ..=>rfl
 |.rangeFunc ..=>rfl
theorem GA{P:Program}{fn:Func}{tmps:Array Value}{us:List Value}{g:ResultVar->Sem Value}(hg1:∀t,g (.tmp t)=pure (tmps.getD t undef))(hg2:∀a t,g (.cell a t)=do loadVar t (<-asAddr (tmps.getD a undef)))(h:(fn.results.toList.mapM g).run P w = .ok us w):
  (results fn tmps).run P w = .ok (if h:us.toArray.size=1 then us.toArray[0] else .tuple us.toArray) w:=by
 have hm:fn.results.mapM g=List.toArray <$> fn.results.toList.mapM g:=by rw[<-List.mapM_toArray]
 have he:results fn tmps=fn.results.mapM g >>= fun vs=>pure (if h:vs.size=1 then vs[0] else .tuple vs):=by
  unfold results;congr 1;congr 1;funext x;cases x with
  |tmp t=>exact(hg1 t).symm
  |cell a t=>exact(hg2 a t).symm
 rw[he,hm];simp[h]
theorem Oi{ob0 ob':cW}{rk ok bs:Ln}{w:World}(hO:rM b0 β ob0 w (Av b0 β ob0 F0)){ob:cW}(hp:Part ob ob0)(hT:mJ β ob0 ob ob' rk ok bs):Calm β ob0 w (Av b0 β ob0 F0) rk (fun b=>b0 b\/b∈bs):=by refine⟨fun b _ hb=>?_,fun key hk b hbl hb=>?_⟩;rcases hb with h|h;exact .inl h;obtain⟨key,_,x,o,c,h1,h2⟩:=hT.own b h;exact .inr (.inl ⟨key,x,o,c,h1,h2⟩);rcases hb with h|h;obtain⟨x,o,c,h1,h2⟩:=hbl;exact(hO.lt b ⟨key,x,o,c,h1,h2⟩).2 h;obtain⟨key2,hk2,h2⟩:=hT.own b h;have:=AL hO hbl h2;subst this;exact hT.dis key hk hk2
theorem Ml{bad:Nat->Prop}{rs:List Sh}{x:eU rs}{us:List Value}{bs:Ln}(h:Vs (jf noβ [] w bad) (gL rs x) us bs):c9 noβ [] w bad (lQ rs x) (if h:us.toArray.size=1 then us.toArray[0] else .tuple us.toArray) bs:=by
 have hl:=h.len;unfold lQ;split;rename_i a ha;rw[ha]at h hl;obtain⟨u,ur,b,br,rfl,rfl,h1,h2⟩:=h.split;cases h2;simp only[s7];exact zL h1;rename_i hne;have hn1:¬us.toArray.size=1:=by
  intro h1;simp only[P6]at h1;rw[h1]at hl
  match hx:gL rs x,hl with
  |[a],_=>exact hne a hx
  |[],hl=>simp at hl
  |_::_::_,hl=>simp at hl
 rw[dif_neg hn1];exact⟨us,rfl,h⟩
theorem M9{P:Program}{E:Env}(hA:iw P E)(hP:P.follows .mixedOrders=true){n:Nat}(hC:∀m,m<n->fP P E (eo E (eI E m))):fP P E (qd E (eI E n)):=by
 intro g ms rs hsg xs r hr;unfold qd at hr;split at hr
 .rename_i c st hinit;unfold IN at hinit;split at hinit
  .rename_i fn hfn;split at hinit
   .rename_i c' hbody;obtain⟨hchk,hinit⟩:=bO hinit;simp only[s8,N3]at hinit;obtain⟨rfl,rfl⟩:=hinit;simp only[hsg]at hchk;obtain⟨hf,hname⟩:=hA.env.fn _ _ hfn;refine⟨⟨fn,hf,hname,by rw[hbody];rfl⟩,fun b0 w vs bs hvs hnd hbs hb0=>?_⟩;have hO0:rM b0 noβ [] w (fun b=>b0 b\/b∈bs):=⟨fun _ _ _ h=>(by cases h),fun _ _ h=>(by cases h),fun _ _ _ _ _ _ _ _ _ h=>(by cases h),fun b h=>(by obtain⟨_,_,_,_,h,_⟩:=h;cases h)⟩;have hl0:lC b0 noβ [] w bs:=⟨hnd,fun b hb=>⟨(hbs b hb).1,(hbs b hb).2,fun⟨_,_,_,_,h,_⟩=>by cases h⟩⟩;obtain⟨β,n1,g1,f1⟩:=vP (i:=0) hO0 hl0 hvs;have hlen:=yW (as:=xs) (ob:=[]) (i:=0);have hvl:xs.length=vs.length:=hvs.len;generalize hia:ke [] xs 0=ia at n1 g1 f1 hlen hr;obtain⟨sl,ob⟩:=ia;simp only at n1 g1 f1 hlen hr;have hown:∀b,dd β ob b->b∈bs:=fun b hb=>(n1.own b hb).resolve_left fun⟨_,_,_,_,h,_⟩=>by cases h
    have hav:∀b,b<w.heap.size->Av b0 β ob F0 b->(b0 b\/b∈bs):=fun b _ h=>(pA.1 h).imp id (hown b)
    let tmps:Array Value:=vs.toArray++Array.replicate (fn.ntmps-vs.toArray.size) undef
    have htmp:∀i,i<vs.length->tmps.getD i undef=vs.getD i undef:=fun i hi=>by simp only[tmps,Pn,List.getD];rw[Rq (by simpa using hi)];simp
    have htmp2:∀i,vs.length<=i->tmps.getD i undef=undef:=fun i hi=>by simp only[tmps,Pn];rw[Array.getElem?_append_right (by simpa using hi)];rw[Array.getElem?_replicate];split<;>rfl
    have hR:Rel b0 β { f:=g,sl:=sl++List.replicate (fn.ntmps-sl.length) .non,ob:=ob } w tmps:=by
     refine⟨⟨n1.obs.mono (bad0:=fun _=>False) (bM.refl _ w) (fun _ _ x=>x.elim) hav (fun _ _ x=>x),fun i=>?_,by simp[tmps,hlen,hvl],(fun i b hb=>by cases hb),fun i=>rN,(fun i j b hi=>by cases hi),hb0⟩,fun i=>?_⟩;rcases iQ i sl.length with hi|hi;have h1:(sl++List.replicate (fn.ntmps-sl.length) AV.non).getD i .any=sl[i]:=by simp[List.getD,su hi,hi]
     rw[h1,htmp i (by omega)];obtain⟨v,hv,hr'⟩:=g1.pointwise.2 i sl[i] (c6 hi);have:vs.getD i undef=v:=by simp[List.getD,hv]
     rw[this];exact hr'.weaken hav;rw[htmp2 i (by omega)];rcases iQ (i-sl.length) (fn.ntmps-sl.length) with h2|h2;have h1:(sl++List.replicate (fn.ntmps-sl.length) AV.non).getD i .any = .non:=by simp[List.getD,vw hi,h2]
     rw[h1];exact⟨rfl,rfl⟩;have h1:(sl++List.replicate (fn.ntmps-sl.length) AV.non).getD i .any = .any:=by simp[List.getD,vw hi,h2]
     rw[h1];rfl;rcases iQ i sl.length with hi|hi;have h1:(sl++List.replicate (fn.ntmps-sl.length) AV.non).getD i .any=sl[i]:=by simp[List.getD,su hi,hi]
     simp only[h1];exact f1 _ (dW hi);have h1:(sl++List.replicate (fn.ntmps-sl.length) AV.non).getD i .any = .non\/(sl++List.replicate (fn.ntmps-sl.length) AV.non).getD i .any = .any:=by rcases iQ (i-sl.length) (fn.ntmps-sl.length) with h2|h2;left;simp[List.getD,vw hi,h2];right;simp[List.getD,vw hi,h2]
     rcases h1 with h1|h1<;>simp only[h1]<;>rfl
    -- how many slots stay
    obtain⟨np,hnp,hio⟩:∃np,iW np c'=true/\(ms.any Mode.isIo=true->np=vs.length/\ms.length<=vs.length):=by
     cases hm:ms.any Mode.isIo with
     |false=>exact⟨0,lh c',fun h=>by cases h⟩
     |true=>rw[hm]at hchk;simp only[P3,Ik,eJ]at hchk;exact⟨xs.length,hchk.2,fun _=>⟨hvl,by rw[<-hvl];exact JP hchk.1⟩⟩
    intro cs
    let b:Frame:={ (default:Frame) with fn:=g,kind:=.normal }
    have henter:Frame.enter P g vs.toArray .normal=b.at { tmps:=tmps,defers:=[] } [.code c']:=by simp[Frame.enter,Frame.at,hf,hbody,b,tmps]
    obtain⟨todo,a',w',st',h1,h2,h3,h4,h5⟩:=Sb hA (IW hA hP) (IV hA hP) (np:=np) n hC (rs++df ms) [.code c'] _ r hr [.code c'] β { tmps:=tmps,defers:=[] } w b cs (.code .nil) (fun i hi=>by
     have:i = .code c':=by simpa using hi
     subst this;exact hnp) hR
    obtain⟨⟨β',k1,k2⟩,k3⟩:=h5
    -- the end
    unfold MY at h2;simp only at h3;rw[h3]at h2;simp only[hfn,hsg]at h2;rw[dif_pos trivial]at h2;obtain⟨as,us,e1,e2,e3⟩:=BN (P:=P) (g:=fun|.tmp t=>pure (a'.tmps.getD t undef)|.cell a t=>do loadVar t (<-asAddr (a'.tmps.getD a undef))) hA k1 (fun _=>rfl) (fun _ _=>rfl) h2;obtain⟨x,ob1,rk1,ok1,bs1,e4,e5,e6⟩:=QB k1.sr.obs (Part.refl _) e1 e3;have hres:(results fn a'.tmps).run P w' = .ok (if h:us.toArray.size=1 then us.toArray[0] else .tuple us.toArray) w':=by exact GA (fun _=>rfl) (fun _ _=>rfl) e2
    obtain⟨y,ob2,rk2,ok2,bs2,e7,e8,e9⟩:∃y ob2 rk2 ok2 bs2,some (Ei rs (df ms) x y)=some r/\mJ β' st'.ob ob1 ob2 rk2 ok2 bs2/\∀bad',Calm β' st'.ob w' (Av b0 β' st'.ob F0) rk2 bad'->Vs (c9 noβ [] w' bad') ((gL (df ms) y).map Au) (mF ms vs) bs2:=by
     cases hm:ms.any Mode.isIo with
     |false=>obtain⟨y,g1,g2,g3⟩:=Fu hm e4;exact⟨y,ob1,[],[],[],g1,mJ.refl _ _ _,fun _ _=>by rw[g2,g3];exact .nil⟩
     |true=>
      obtain⟨q1,q2⟩:=hio hm;obtain⟨y,ob2,rk2,ok2,bs2,g1,g2,g3⟩:=Oe k1.sr.obs k1.sr.slot e5.part (vs:=vs) (fun j v hj=>by have hjl:=fR hj;rw[Dk,h4.2 j (by omega)];show tmps.getD j undef=v;rw[htmp j hjl];simp[List.getD,hj]) q2 e4
      exact⟨y,ob2,rk2,ok2,bs2,g1,g2,g3⟩
    have hT:=e5.trans k1.sr.obs e8;have hcalm:=Oi k1.sr.obs (Part.refl _) hT;refine⟨.returned (if h:us.toArray.size=1 then us.toArray[0] else .tuple us.toArray),w',_,⟨_,rfl,?_,?_⟩,by rw[henter];exact h1,rfl,rfl,h4.1,rfl,fn,hf,hres⟩;exact k3.mono fun b _ hb=>hown b hb;refine⟨bs1,bs2,hT.nd,fun b hb=>?_,?_,?_⟩;obtain⟨key,_,x',o,c,q1,q2⟩:=hT.own b hb;have hob:dd β' st'.ob b:=⟨key,x',o,c,q1,q2⟩;exact⟨(k1.sr.obs.lt b hob).1,(k2 b hob).imp (hown b) id⟩;have hr':=uR e7;rw[<-hr',xC];exact Ml (e6 _ (hcalm.sub fun k hk=>by simp[hk]));have hr':=uR e7;rw[<-hr',xC];exact e9 _ (hcalm.sub fun k hk=>by simp[hk])
   cases hinit
  cases hinit
 cases hr
theorem Oj{P:Program}{E:Env}(hA:iw P E)(hP:P.follows .mixedOrders=true){n:Nat}(hC:∀m,m<n->fP P E (eo E (eI E m))):fP P E (eo E (eI E n)):=by
 intro g ms rs hsg xs r hr;have h0:=M9 hA hP hC;have h1:fP P E (bt E (eI E n)):=by intro g ms rs hsg xs r hr;unfold bt at hr;split at hr;cases hr;exact h0 g ms rs hsg xs r hr
 unfold eo at hr;split at hr;rename_i k hk;obtain⟨e1,e2⟩:=hA.hk g k hk;exact⟨e1,e2 _ h1 ms rs hsg xs r hr⟩;exact h0 g ms rs hsg xs r hr
theorem M8{P:Program}{E:Env}(hA:iw P E)(hP:P.follows .mixedOrders=true):∀(n:Nat),fP P E (eo E (eI E n)):=by
 intro n
 induction n using Nat.strongRecOn with
 |ind n ih=>exact Oj hA hP ih
theorem QY{P:Program}{E:Env}(hA:iw P E)(hP:P.follows .mixedOrders=true):fP P E (DF E):=by
 intro g ms rs hsg xs r hr;have:∃n,eo E (eI E n) g xs (rs++df ms)=some r:=by
  have hD:∀s,jK s (DM E s) (fun n=>eI E n s):=fun s t st r h=>by obtain⟨n,h⟩:=Dg.1 h;exact⟨n,fun m hm=>Bj hm h⟩
  obtain⟨n,h1⟩:=wZ hD g xs _ r hr;exact⟨n,h1 n (dD _)⟩
 obtain⟨n,hn⟩:=this;exact M8 hA hP n g ms rs hsg xs r hn
end
end
section
def Eu(t b:TypeId):Code:=
 (Code.region 0 #[⟨some 2, .assign (.const (.slice none 0 0)), t, "slices.go:355", #[], none⟩] false).seq
  (((Code.region 1 #[⟨some 3, .move (.tmp 0), t, "slices.go:357", #[], none⟩, ⟨some 4, .binOp .eql t (.tmp 3) (.const (.slice none 0 0)) t, b, "slices.go:357", #[⟨0, .data⟩], none⟩] false).seq
    (Code.cond (.tmp 4) ((Code.region 2 #[⟨some 2, .assign (.const (.slice none 0 0)), t, "slices.go:358", #[], none⟩] false).seq .ret) .skip)).seq
   ((Code.region 3 #[⟨some 5, .buildSlice t 0 #[], t, "slices.go:362", #[], none⟩, ⟨some 6, .move (.tmp 0), t, "slices.go:362", #[], none⟩,
     ⟨some 7, .call ⟨.builtin .append, #[.tmp 5, .tmp 6], #[t, t]⟩, t, "slices.go:362", #[⟨0, .data⟩, ⟨1, .data⟩], none⟩,
     ⟨some 2, .assign (.tmp 7), t, "slices.go:362", #[⟨2, .data⟩, ⟨2, .chain⟩, ⟨0, .phase⟩, ⟨1, .phase⟩, ⟨2, .phase⟩], none⟩] false).seq .ret))
section
variable {w:World} {P:Program}
theorem jG{ops:Array Oper}{Q:Exit->Act->World->Prop}{i:Nat}{rest:Ln}{o:Oper}{v:Value}{a:Act}{w w':World}(ho:ops[i]?=some o)(hg:o.guard=none)(h:(execOp a.eval o).run P w = .ok (.value v) w')(hn:wpOps P ops Q rest (a.put o.dst v) w'):wpOps P ops Q (i::rest) a w:=by
 rw[wpOps_cons];unfold wpOp;rw[ho];have hw:Region.wanted o (yielded ops a.tmps)=true:=by simp[Region.wanted,hg]
 simp only[hw,sq];exact .inl (oV h hn)
theorem Kl{t te:TypeId}(hu:P.underlying t=some (.slice te))(A:Option Addr)(n c:Nat)(x y:Operand):(do eqGuard .eql t x y (.slice A n c) (.slice none 0 0);binOp .eql t (.slice A n c) (.slice none 0 0):Sem Value).run P w = .ok (.bool A.isNone) w:=by
 have h1:(eqGuard .eql t x y (.slice A n c) (.slice none 0 0)).run P w = .ok () w:=by simp[eqGuard]
 rw[u7,h1];simp only[u9];have he:(Op.equalIn Op.maxDepth t (.slice A n c) (.slice none 0 0)).run P w = .ok A.isNone w:=by rw[show Op.maxDepth=(Op.maxDepth-1)+1 from rfl];cases A<;>simp[Op.equalIn,uX hu]
 simp[binOp,Op.equal,he]
theorem iO{g : FuncId}{fn : Func}{t te b : TypeId}{e : Ty}(hf : P.funcs[g]? = some fn)(hb : fn.body = some (Eu t b))(hn : fn.ntmps = 8)(hres : fn.results = #[.tmp 2])(hname : (fn.name == "runtime.NumGoroutine") = false)
  (hu:P.underlying t=some (.slice te)) (hte:gE P te e):Enters P g/\∀(bad:Nat->Prop) (w:World) (l:List e.den) (v:Value),Reads w bad e l v->l.length<=mR ->
  Calls P g #[v] w fun en w'=>∃u bs,en = .returned u/\bM (fun _=>False) w w'/\bs.Nodup/\(∀b∈bs,b<w'.heap.size/\w.heap.size<=b) /\
   ∀bad',(∀b,b<w.heap.size->bad' b->bad b)->qM w' bad' e l u bs:=by
 refine⟨⟨fn,hf,hname,by rw[hb];rfl⟩,fun bad w l v hv hlim=>?_⟩;refine calls_of_wp hf hb ?_;rw[hn];have hr:∀(tm:Array Value) u w',tm.getD 2 undef=u->(results fn tm).run P w' = .ok u w':=by intro tm u w' h;unfold results;rw[hres];rw[Pn]at h;simp[h]
 have htm : #[v]++Array.replicate (8 - #[v].size) undef = #[v,undef,undef,undef,undef,undef,undef,undef]:=by rfl
 rw[htm];have hv':=hv;obtain⟨A,c,rfl,hc,hA,hrd⟩:=hv';unfold Eu;refine wp_seq (wp_region ?_)
 refine jG (i := 0) (o := ⟨some 2, .assign (.const (.slice none 0 0)), t, "slices.go:355", #[], none⟩) (v := .slice none 0 0) (w' := w) rfl rfl (by simp [execOp, Act.eval]) ?_
 show Code.wp _ _ _ _ _;refine wp_seq (wp_seq (wp_region ?_))
 refine jG (i := 0) (o := ⟨some 3, .move (.tmp 0), t, "slices.go:357", #[], none⟩) (v := .slice A l.length c) (w' := w) rfl rfl (by simp [execOp, Act.eval, Act.put]) ?_
 refine jG (i := 1) (o := ⟨some 4, .binOp .eql t (.tmp 3) (.const (.slice none 0 0)) t, b, "slices.go:357", #[⟨0, .data⟩], none⟩) (v := .bool A.isNone) (w' := w) rfl rfl ?_ ?_
 have he : ∀ a : Act, a.eval (.tmp 3) = .slice A l.length c → (execOp a.eval ⟨some 4, .binOp .eql t (.tmp 3) (.const (.slice none 0 0)) t, b, "slices.go:357", #[⟨0, .data⟩], none⟩).run P w = .ok (.value (.bool A.isNone)) w := by
  intro a ha
  have : (execOp a.eval ⟨some 4, .binOp .eql t (.tmp 3) (.const (.slice none 0 0)) t, b, "slices.go:357", #[⟨0, .data⟩], none⟩) = (do pure (.value (← (do eqGuard .eql t (.tmp 3) (.const (.slice none 0 0)) (a.eval (.tmp 3)) (a.eval (.const (.slice none 0 0))); binOp .eql t (a.eval (.tmp 3)) (a.eval (.const (.slice none 0 0))) : Sem Value))) : Sem Next) := rfl
  rw[this,ha,u7];have:=Kl (w:=w) hu A l.length c (.tmp 3) (.const (.slice none 0 0));rw[show a.eval (.const (.slice none 0 0)) = .slice none 0 0 from rfl,this];rfl
 exact he _ (by simp[Act.eval,Act.put]);show Code.wp _ _ _ _ _;cases A with
 |none=>
  have hc0:=hA rfl;have hl:l=[]:=tS (by omega);subst hl;refine wp_cond_true (by simp[Act.eval,Act.put]) ?_;refine wp_seq (wp_region ?_)
  refine jG (i := 0) (o := ⟨some 2, .assign (.const (.slice none 0 0)), t, "slices.go:358", #[], none⟩) (v := .slice none 0 0) (w' := w) rfl rfl (by simp [execOp, Act.eval]) ?_
  show Code.wp _ _ _ _ _;refine wp_ret ⟨rfl,.slice none 0 0,hr _ _ _ (by simp[Act.put]),.slice none 0 0,[],rfl,bM.refl _ _,rN,by simp,fun _ _=>.inl ⟨⟨_,rfl⟩,rfl,rfl⟩⟩
 |some ad=>
  refine wp_cond_false (by simp[Act.eval,Act.put]) ?_;refine wp_skip ?_;show Code.wp _ _ _ _ _;refine wp_seq (wp_region ?_);obtain⟨i,z,hi,hsz,hbt,hz,hzc,_⟩:=hte.info
  let wb:=w.alloc (.cells #[] te)
  have hbuild:(Instr.buildSlice t 0 #[]).run P w = .ok (.slice (some ⟨w.heap.size,0,none⟩) 0 0) wb:=by
   have hfill:Instr.fill (fun k=>some (k*e.size,e.size)) ((Array.range (0*e.size)).map (fun x=>(#[]:Array Value)[x%(#[]:Array Value).size]!)) []=some #[]:=by simp[Instr.fill]
   simp only[Instr.buildSlice,u7,uX hu,u9,dY hte,Q1,sq];rw[ab (by omega)];have hr0:Array.map (fun _=>(default:Value)) (Array.range 0) = #[]:=by rw[show Array.range 0 = #[] from by simp];simp
   simp[Instr.fill,newRow,run_newObj,World.alloc_eq,wb,hr0]
  refine jG (i := 0) (o := ⟨some 5, .buildSlice t 0 #[], t, "slices.go:362", #[], none⟩) (v := .slice (some ⟨w.heap.size, 0, none⟩) 0 0) (w' := wb) rfl rfl (by simp [execOp, hbuild]) ?_
  refine jG (i := 1) (o := ⟨some 6, .move (.tmp 0), t, "slices.go:362", #[], none⟩) (v := .slice (some ad) l.length c) (w' := wb) rfl rfl (by simp [execOp, Act.eval, Act.put]) ?_
  have hsame:bM (fun _=>False) w wb:=bM.alloc _ _ _;have hvb:Reads wb (fun b=>b<w.heap.size->bad b) e l (.slice (some ad) l.length c):=by refine⟨_,_,rfl,hc,hA,fun a ha i x hx=>?_⟩;obtain⟨q1,ds,q2,q3⟩:=hrd a ha i x hx;exact⟨q1,ds,fe (bad':=fun b=>b<w.heap.size->bad b) hsame (fun _ _ h=>h.elim) (fun b hlt h=>h hlt) q2,q3.same hsame (fun h=>h)⟩
  have happ:∃u w' bs,(Builtin.append_ #[t,t] t #[.slice (some ⟨w.heap.size,0,none⟩) 0 0,.slice (some ad) l.length c]).run P wb = .ok u w'/\bM (fun _=>False) wb w'/\bs.Nodup/\(∀b∈bs,b<w'.heap.size/\wb.heap.size<=b) /\
    ∀bad',(∀b,b<wb.heap.size->bad' b->b<w.heap.size->bad b)->qM w' bad' e l u bs:=by
   rcases NH l.length with hl|hl;have hl0:l=[]:=tS hl;subst hl0;have hst:∀a,(storeCells a [] 0:Sem Unit).run P wb = .ok () wb:=fun a=>by simp[storeCells]
   have hfc:(Builtin.firstCells i.size 0 (.slice (some ad) 0 c)).run P wb = .ok #[] wb:=by simpa using Qr (P:=P) wb i.size 0 ad 0 c [] (by simp) (by simp)
   refine⟨.slice (some ⟨w.heap.size,0,none⟩) 0 0,wb,[],?_,bM.refl _ _,by simp,by simp,fun _ _=>.inl ⟨⟨_,rfl⟩,rfl,rfl⟩⟩;simp[Builtin.append_,uX hu,sizeOf,typeInfo,hi,Builtin.lenOf,hfc,hst];obtain⟨u,w',g1,g2,g3,g4⟩:=C9 (w:=wb) (ty:=t) (l:=([]:List e.den)) (ys:=l) (bad:=fun b=>b<w.heap.size->bad b) (A:=some ⟨w.heap.size,0,none⟩) (c:=0) hu hte (vx:=.slice (some ⟨w.heap.size,0,none⟩) 0 0)
    ⟨_,0,rfl,dD _,by simp,by simp⟩ rfl hvb (by simp) (by simpa using hl) (by simpa using hlim)
   refine⟨u,w',[wb.heap.size],g1,g2,by simp,fun b hb=>?_,fun bad' hb=>by simpa using g4 bad' hb⟩;have:b=wb.heap.size:=by simpa using hb
   subst this;exact⟨by omega,dD _⟩
  obtain⟨u,w',bs,h1,h2,h3,h4,h5⟩:=happ
  refine jG (i := 2) (o := ⟨some 7, .call ⟨.builtin .append, #[.tmp 5, .tmp 6], #[t, t]⟩, t, "slices.go:362", #[⟨0, .data⟩, ⟨1, .data⟩], none⟩) (v := u) (w' := w') rfl rfl ?_ ?_
  have he : ∀ a : Act, a.eval (.tmp 5) = .slice (some ⟨w.heap.size, 0, none⟩) 0 0 → a.eval (.tmp 6) = .slice (some ad) l.length c → (execOp a.eval ⟨some 7, .call ⟨.builtin .append, #[.tmp 5, .tmp 6], #[t, t]⟩, t, "slices.go:362", #[⟨0, .data⟩, ⟨1, .data⟩], none⟩).run P wb = .ok (.value u) w' := by
   intro a e5 e6;simp[execOp,resolve,invoke,builtin,e5,e6,h1]
  exact he _ (by simp[Act.eval,Act.put]) (by simp[Act.eval,Act.put])
  refine jG (i := 3) (o := ⟨some 2, .assign (.tmp 7), t, "slices.go:362", #[⟨2, .data⟩, ⟨2, .chain⟩, ⟨0, .phase⟩, ⟨1, .phase⟩, ⟨2, .phase⟩], none⟩) (v := u) (w' := w') rfl rfl (by simp [execOp, Act.eval, Act.put]) ?_
  show Code.wp _ _ _ _ _;refine wp_ret ⟨rfl,u,hr _ _ _ (by simp[Act.put]),u,bs,rfl,hsame.trans h2 fun _ _ h=>h,h3,fun b hb=>⟨(h4 b hb).1,kz hsame.1 (h4 b hb).2⟩,fun bad' hb=>?_⟩;exact h5 bad' fun b hlt hb' hlt'=>hb b hlt' hb'
end
end
section
section
variable {w:World} {P:Program}
end
end
section
def Cd:(τ:Ty)->τ.den->Prop
 |.int κ,n=>(Lit.int κ n).wf=true
 |.bool,_=>True
 |.list e,l=>List.length (α:=e.den) l<=140737488351232/\∀x,x∈(show List e.den from l)->Cd e x
 |.pair a b,v=>Cd a v.1/\Cd b v.2
section
variable {H:Type} {enc':TypeId×Value->H} {P:Program} {w:World}
theorem CX{α:Type}{p:Nat->α->Prop}:∀{n:Nat},(∀i,i<n->∃x,p i x)->∃l:List α,l.length=n/\∀i x,l[i]?=some x->p i x
 |0,_=>⟨[],rfl,fun i x h=>by simp at h⟩
 |n+1,h=>by
  obtain⟨l,hl,hp⟩:=CX (n:=n) fun i hi=>h i (by omega);obtain⟨x,hx⟩:=h n (by omega);refine⟨l++[x],by simp[hl],fun i y hy=>?_⟩;rcases iQ i l.length with hi|hi;rw[su hi]at hy;exact hp i y hy;rw[vw hi]at hy;have:i-l.length=0:=by rcases NH (i-l.length) with h|h;exact h;rw[qA (by simp;omega)]at hy;cases hy
  rw[this]at hy;simp at hy;subst hy;rw[show i=n from by omega];exact hx
theorem all_append{l m:Ln}(h:(l++m).all (· <= reachBytes)=true):l.all (· <= reachBytes)=true/\m.all (· <= reachBytes)=true:=by rw[Qj,eJ]at h;exact h
theorem ve{te:TypeId}:∀{l:List (DataW H)} {i:Nat} {d:DataW H},(DataW.weightsAll P te l).all (· <= reachBytes)=true->l[i]?=some d->(d.weights P te).all (· <= reachBytes)=true
 |[],i,d,_,h=>by simp at h
 |x::l,0,d,hw,h=>by simp at h;subst h;simp only[DataW.weightsAll]at hw;exact(all_append hw).1
 |x::l,i+1,d,hw,h=>by simp only[DataW.weightsAll]at hw;exact ve (all_append hw).2 (by simpa using h)
theorem ew:∀{ts:List TypeId} {l:List (DataW H)} {i:Nat} {t:TypeId} {d:DataW H},(DataW.weightsEach P ts l).all (· <= reachBytes)=true->ts[i]?=some t->l[i]?=some d->(d.weights P t).all (· <= reachBytes)=true
 |[],l,i,t,d,_,h,_=>by simp at h
 |t'::ts,[],i,t,d,_,_,h=>by simp at h
 |t'::ts,x::l,0,t,d,hw,ht,h=>by simp at h ht;subst h;subst ht;simp only[DataW.weightsEach]at hw;exact(all_append hw).1
 |t'::ts,x::l,i+1,t,d,hw,ht,h=>by simp only[DataW.weightsEach]at hw;exact ew (all_append hw).2 (by simpa using ht) (by simpa using h)
theorem rD{t:TypeId}{τ:Ty}(h:gE P t τ):P.cellsOf t=τ.size:=by obtain⟨i,z,hi,hs,_⟩:=h.info;simp[Program.cellsOf,hi,hs]
theorem L9{spare:Nat->Bool}{held:Bool}:∀(n:Nat) {t:TypeId} {τ:Ty},pV P n t τ=true->∀{fuel:Nat} {cs:List Value} {x:DataW H×List MemPlace},
  DataW.trod enc' P w 0 spare held fuel t cs=some x->(x.1.weights P t).all (· <= reachBytes)=true->∃y:τ.den,enc w (fun _=>False) τ y cs/\Cd τ y:=by
 intro n
 induction n using Nat.strongRecOn with
 |ind n ih=>
 intro t τ hok fuel cs x hx hwt;have hT:gE P t τ:=⟨n,hok⟩
 -- the fields of a struct
 have flds:∀(m:Nat),m<n->∀{fs:List Field} {off:Nat} {σ:Ty},sx P m fs off σ=true->(∀(i:Nat) f,fs[i]?=some f->∃fu y,DataW.trod enc' P w 0 spare held fu f.type ((cs.drop f.offset).take (P.cellsOf f.type))=some y/\(y.1.weights P f.type).all (· <= reachBytes)=true)->cs.length=off+σ.size ->
   ∃y:σ.den,enc w (fun _=>False) σ y (cs.drop off)/\Cd σ y:=by
  intro m
  induction m with
  |zero=>intro _ fs off σ h;simp[sx]at h
  |succ m ihm=>intro hm fs off σ h hf hl;unfold sx at h;split at h;rename_i σ f;simp only[eJ,Dq]at h;obtain⟨rfl,h2⟩:=h;obtain⟨fu,y,h3,h4⟩:=hf 0 f rfl;rw[rD ⟨m,h2⟩,BQ (by rw[F7];omega)]at h3;exact ih m (by omega) h2 h3 h4;rename_i f g r a b;simp only[eJ,Dq]at h;obtain⟨⟨rfl,h2⟩,h3⟩:=h;obtain⟨fu,y,h4,h5⟩:=hf 0 f rfl;obtain⟨u,g1,g2⟩:=ih m (by omega) h2 h4 h5;obtain⟨v,e1,e2⟩:=ihm (by omega) h3 (fun i f' hi=>hf (i+1) f' (by simpa using hi)) (by simp only[Ty.size]at hl;omega);rw[rD ⟨m,h2⟩]at g1;exact⟨(u,v),⟨_,_,by rw[<-List.drop_drop,N5],g1,e1⟩,g2,e2⟩;cases h
 cases τ with
 |int κ=>obtain⟨m,rfl,rfl,hw⟩:=DataW.trod_int hT.intU hx;exact⟨m,rfl,hw⟩
 |bool=>obtain⟨b,rfl,rfl⟩:=DataW.trod_bool hT.boolU hx;exact⟨b,rfl,trivial⟩
 |list e=>
  cases n with
  |zero=>simp[pV]at hok
  |succ n=>
  have hok':=hok;obtain⟨te,hu,hok2⟩:∃te,P.underlying t=some (.slice te)/\pV P n te e=true:=by
   unfold pV at hok';split at hok';cases hok'
   .simp only[eJ]at hok';obtain⟨_,hok'⟩:=hok';split at hok'
    .simp_all
    .simp_all
    rename_i h1 h2;cases h1;exact⟨_,h2,hok'⟩
    .simp_all
    cases hok'
  have hte:gE P te e:=⟨n,hok2⟩;rcases DataW.trod_slice hu hx with⟨rfl,rfl⟩|⟨a,len,cap,elems,rest,m,_,rfl,rfl,hb,hl,hm,hlen,hel,hsp,hns⟩;exact⟨[],⟨none,0,rfl,dD _,fun _=>rfl,fun a h=>by cases h⟩,by simp,by simp⟩
  .simp only[DataW.weights,hu,OP,eJ,ir]at hwt;obtain⟨hw1,hw2⟩:=hwt;have hw3:=(all_append hw2).1;have hspot:0<len->a.spot=none:=fun hpos=>by
    have h1:=hel 0 hpos;rw[c6 (show 0<elems.length by omega)]at h1;obtain⟨ds,h2,_⟩:=Q9.1 h1;obtain⟨_,h4,h5⟩:=World.cells?_some h2;rw[rD hte]at h4 h5;have hp:=e.size_pos;have h8:=h5 0 hp;cases hs:a.spot with
    |none=>rfl
    |some s=>
     have:w.cell? ((a.add (0*e.size)).add 0)=none:=by simp only[Q1,Addr.add,sq,World.cell?,hs];split<;>rfl
     rw[this]at h8;have h9:ds[0]?≠none:=by rw[c6 (by omega)];simp
     exact absurd h8.symm h9
   have hadd:a.spot=none->∀k,a.add k=⟨a.block,a.off+k,none⟩:=fun hs k=>by
    unfold Addr.add;split;.rename_i h0;subst h0;cases a;simp_all
    rfl
   obtain⟨l,hl1,hl2⟩:=CX (α:=e.den) (n:=len) (p:=fun i y=>(a.spot=none/\∃ds,enc w (fun _=>False) e y ds/\At w a.block (a.off+i*e.size) ds)/\Cd e y) (fun i hi=>by
    have h1:=hel i hi;have hi2:i<elems.length:=by omega
    rw[c6 hi2]at h1;obtain⟨ds,h2,h3⟩:=Q9.1 h1;obtain⟨_,h4,h5⟩:=World.cells?_some h2;rw[rD hte]at h4 h5;obtain⟨y,h6,h7⟩:=ih n (by omega) hok2 h3 (ve hw3 (i:=i) (by simp[hi2]));have hsp0:a.spot=none:=hspot (by omega);refine⟨y,⟨hsp0,ds,h6,fun j v hj=>?_⟩,h7⟩;have hjl:j<e.size:=by rw[<-h4];exact(tR.1 hj).1
    have h8:=h5 j hjl;rw[hj]at h8;rw[<-h8];rw[hadd hsp0];simp only[Addr.add];split;rename_i h0;rw[h0,Ds];rfl)
   refine⟨l,⟨some a,cap,by rw[hl1],by rw[hl1];exact hl,by simp,fun a' ha i y hy=>?_⟩,?_,fun y hy=>?_⟩;cases ha;obtain⟨h1,ds,h2,h3⟩:=(hl2 i y hy).1;exact⟨h1,fun h=>h,ds,h2,h3⟩;have hb1:=hte.bytes;have:len*1<=(elems.map (·.1)).length*P.bytesOf te+(rest.map (·.1)).length*P.bytesOf te:=by rw[pH,hlen];have:=Nat.mul_le_mul_left len hb1;omega
   rw[Ad]at hw1;have hr:reachBytes=140737488351232:=rfl;show l.length<=_;omega;obtain⟨i,hi⟩:=P4 hy;exact(hl2 i y hi).2
 |pair a b=>
  cases n with
  |zero=>simp[pV]at hok
  |succ n=>
  have hok':=hok;obtain⟨fs,hu,hok2⟩:∃fs,P.underlying t=some (.struct fs)/\sx P n fs.toList 0 (.pair a b)=true:=by
   unfold pV at hok';split at hok';cases hok'
   .simp only[eJ]at hok';obtain⟨_,hok'⟩:=hok';split at hok'
    .simp_all
    .simp_all
    .simp_all
    rename_i h1 h2;cases h1;exact⟨_,h2,hok'⟩;cases hok'
  obtain⟨xs,m,_,rfl,hcl,hxl,hxs⟩:=DataW.trod_struct hu hx;simp only[DataW.weights,hu]at hwt;rw[rD hT]at hcl;have:=flds n (by omega) hok2 (fun i f hi=>by
   have hi':fs[i]?=some f:=by simpa using hi
   have h1:=hxs i f hi';have hil:i<xs.length:=by rw[hxl];exact(NK.1 hi').1
   rw[c6 hil]at h1;exact⟨m,xs[i],h1,ew hwt (i:=i) (by simp[hi']) (by simp[hil])⟩) (by rw[hcl,Dk])
  simpa using this
theorem NR{base:Nat}{t:TypeId}{τ:Ty}(h:gE P t τ){v:Value}(hv:Value.okWide P w .any base t v):kj τ v v.cells.toList:=by
 cases τ with
 |int κ=>have hu:=h.intU;simp only[Value.okWide,hu,Cell.okWide,Cell.ok]at hv;cases v<;>simp_all [kj,Value.cells]
 |bool=>have hu:=h.boolU;simp only[Value.okWide,hu,Cell.okWide,Cell.ok]at hv;cases v<;>simp_all [kj,Value.cells]
 |list e=>obtain⟨te,hu,_⟩:=h.listU;simp only[Value.okWide,hu,Cell.okWide,Cell.ok]at hv;cases v<;>simp_all [kj,Value.cells]
 |pair a b=>obtain⟨fs,hu,_⟩:=h.pairU;simp only[Value.okWide,hu]at hv;obtain⟨cs,rfl,_⟩:=hv;simp[kj,Value.cells]
theorem pC{spare:Nat->Bool}{held:Bool}{base:Nat}{t:TypeId}{τ:Ty}(h:gE P t τ){v:Value}(hv:Value.okWide P w .any base t v){d:DataW H}{ps:List MemPlace}(hd:DataW.Trod enc' P w 0 spare held t v d ps)(hw:(d.weights P t).all (· <= reachBytes)=true):
  ∃y:τ.den,A8 w (fun _=>False) τ y v/\Cd τ y:=by
 obtain⟨n,hn⟩:=h.ok;obtain⟨fuel,hf⟩:=hd;obtain⟨y,h1,h2⟩:=L9 n hn hf hw;exact⟨y,⟨_,NR h hv,h1⟩,h2⟩
theorem nQ{bad:Nat->Prop}{w w':World}(h:bM bad w w')(hb:∀b,¬bad b):Go.RowKit.Below w.heap.size w w':=
 ⟨h.st.os,h.st.tape,h.st.output,h.1,fun k hk=>h.2 k hk (hb k)⟩
end
end
end Go.Proofs.YtfjpfjnepdhnaaaGreat.R

