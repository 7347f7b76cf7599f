/- . -/
import Derived.Calls
import Derived.KernelRfl
import Derived.Orders
import Derived.Laws.World
import Derived.Laws.Cells
import Derived.Laws.AppendOwn
import Derived.Laws.Entries
import Derived.Laws.StructEq
import Derived.Laws.Slices
import Derived.Laws.MakeOwn
import Derived.Laws.CopyRow
import Derived.ChangeArms
import Derived.DataReads
import Derived.SizedLaws
import Derived.Below
import Derived.Carry
import Derived.Test.YtfjpfjnepdhnaaaGreatR2
namespace Go.Proofs.YtfjpfjnepdhnaaaGreat.R
open Go
set_option linter.unusedVariables false
set_option linter.unusedSimpArgs false
section
section
variable {R:Type} {E:Env} {C:bCg}
theorem storeK_b(dst:Option Tmp)(st:St)(t:TypeId)(a x:AV)(k:St->Option R):cCh E dst st t a x k=(cCh E dst st t a x some).bind k:=by
 unfold cCh
 split
 .split
  .exact bZa _ (some _) k
  .rfl
 .split
  .split
   .exact bZa _ (some _) k
   .rfl
  .rfl
 .rfl
theorem storeR_b(dst:Option Tmp)(st:St)(t:TypeId)(key j off:Nat)(x:Operand)(k:St->Option R):cFe E dst st t key j off x k=(cFe E dst st t key j off x some).bind k:=by
 unfold cFe
 dsimp only
 split
 .rw[cFd,cFd (R:=St),bFz]
  congr 1
  funext v
  rw[bFz]
  congr 1
  funext y
  split<;>rfl
 .rfl
theorem appOwnK_b(dst:Option Tmp)(st:St)(ts:Array TypeId)(key:Nat)(cut:Option Nat)(y:AV)(k:St->Option R):bZb E dst st ts key cut y k=(bZb E dst st ts key cut y some).bind k:=by
 unfold bZb
 split
 .rename_i t t' _
  cases Nat.beq t t' with
  |false=>rfl
  |true=>
   simp only[cond_true]
   split
   .split
    .rw[bRn,bRn (R:=St),bFz]
     congr 1
     funext ys
     cases app _ ys<;>rfl
    .rfl
   .rfl
 .rfl
theorem cAv(ob:Obs)(ρ:Operand->AV)(o:Oper)(g:AV->St)(k:St->Option R):(bH7 E C ob ρ o fun v=>k (g v))=(bH7 E C ob ρ o fun v=>some (g v)).bind k:=by
 rw[cAw,cAw (R:=St),bFz];rfl
theorem ownK_b{R:Type}(ob:Obs)(τ:Ty)(v:AV)(k:List τ.den->Obs->Option R):(shK ob (.own τ) [v] fun x _ o=>k x o)=(shK ob (.own τ) [v] fun x _ o=>some (x,o)).bind fun p=>k p.1 p.2:=by
 unfold shK
 split
 .rfl
 .split
  .split
   .rename_i h;subst h;rfl
   .rfl
  .rfl
 .split
  .split
   .rename_i h;subst h;rfl
   .rfl
  .rfl
 .rfl
theorem shK_b:∀(s:Sh) (ob:Obs) (cs:List AV) {R:Type} (k:s.den->List AV->Obs->Option R),shK ob s cs k=(shK ob s cs fun x r o=>some (x,r,o)).bind fun p=>k p.1 p.2.1 p.2.2
 |.d τ,ob,cs,R,k=>by
  simp only[shK]
  rw[bS3 τ cs,bS3 τ cs (fun v r=>some (v,r,shK.frz ob τ cs)),bFz]
  rfl
 |.own τ,ob,[],R,k=>by simp only[shK];rfl
 |.own τ,ob,c::r,R,k=>by
  simp only[shK]
  split
  .rfl
  .split
   .split
    .rename_i h;subst h;rfl
    .rfl
   .rfl
  .split
   .split
    .rename_i h;subst h;rfl
    .rfl
   .rfl
  .rfl
 |.agg a b,ob,cs,R,k=>by
  simp only[shK]
  rw[shK_b a ob cs,shK_b a ob cs (fun x cs ob=>shK ob b cs fun y cs ob=>some ((x,y),cs,ob)),bFz]
  congr 1
  funext p
  rw[shK_b b p.2.2 p.2.1 (fun y cs ob=>k (p.1,y) cs ob),shK_b b p.2.2 p.2.1 (fun y cs ob=>some ((p.1,y),cs,ob)),bFz]
  rfl
theorem io1_b(ob:Obs)(s:Sh)(v:AV){R:Type}(k:s.den->Obs->Option R):iosK.io1 ob s v k=(iosK.io1 ob s v fun x o=>some (x,o)).bind fun p=>k p.1 p.2:=by
 have box:∀{key:Nat},(match bBc ob key with
   |some (.box cs)=>shK (delN ob key) s cs fun x r ob=>match r with
    |[]=>k x ob
    |_=>none
   |_=>none)=((match bBc ob key with
   |some (.box cs)=>shK (delN ob key) s cs fun x r ob=>match r with
    |[]=>some (x,ob)
    |_=>none
   |_=>none):Option (s.den×Obs)).bind fun p=>k p.1 p.2:=by
  intro key
  split
  .rename_i cs _
   rw[shK_b s (delN ob key) cs (fun x r ob=>match r with|[]=>k x ob|_=>none),shK_b s (delN ob key) cs (fun x r ob=>match r with|[]=>some (x,ob)|_=>none),bFz]
   congr 1
   funext p
   obtain⟨x,r,o⟩:=p
   cases r<;>rfl
  .rfl
 cases s with
 |own τ=>
  cases v with
  |ow key=>
   simp only[iosK.io1]
   split
   .split
    .rename_i h;subst h;rfl
    .rfl
   .rfl
  |_=>rfl
 |d τ=>
  cases v with
  |ptr key off=>
   cases off with
   |zero=>exact box
   |succ n=>rfl
  |_=>rfl
 |agg a b=>
  cases v with
  |ptr key off=>
   cases off with
   |zero=>exact box
   |succ n=>rfl
  |_=>rfl
theorem bPy:∀(ms:List Mode) (vs:List AV) (ob:Obs) {R:Type} (k:List (Option AV)->Obs->Option R),bN6 ob ms vs k=(bN6 ob ms vs fun a b=>some (a,b)).bind fun p=>k p.1 p.2
 |[],[],ob,R,k=>rfl
 |[],_::_,ob,R,k=>rfl
 |.ro::ms,[],ob,R,k=>rfl
 |.ro::ms,v::vs,ob,R,k=>by
  simp only[bN6]
  rw[bPy ms vs ob (fun xs ob=>k (none::xs) ob),bPy ms vs ob (fun xs ob=>some (none::xs,ob)),bFz];rfl
 |.mv (.own τ)::ms,[],ob,R,k=>rfl
 |.mv (.own τ)::ms,v::vs,ob,R,k=>by
  simp only[bN6]
  rw[ownK_b ob τ v,ownK_b ob τ v (fun x ob'=>bN6 ob' ms vs fun xs ob=>some (some (.new τ x)::xs,ob)),bFz]
  congr 1
  funext p
  rw[bPy ms vs p.2 (fun xs ob=>k (some (.new τ p.1)::xs) ob),bPy ms vs p.2 (fun xs ob=>some (some (.new τ p.1)::xs,ob)),bFz];rfl
 |.mv (.d τ)::ms,_,ob,R,k=>by cases ‹List AV› <;> rfl
 |.mv (.agg a b)::ms,_,ob,R,k=>by cases ‹List AV› <;> rfl
 |.io s::ms,[],ob,R,k=>rfl
 |.io s::ms,v::vs,ob,R,k=>by
  simp only[bN6]
  rw[io1_b ob s v,io1_b ob s v (fun x ob'=>bN6 ob' ms vs fun xs ob=>some (some (ioOf (bVz s x))::xs,ob)),bFz]
  congr 1
  funext p
  rw[bPy ms vs p.2 (fun xs ob=>k (some (ioOf (bVz s p.1))::xs) ob),bPy ms vs p.2 (fun xs ob=>some (some (ioOf (bVz s p.1))::xs,ob)),bFz];rfl
theorem bWp(ob:Obs):∀(xs:List (Option AV)) (ts:List TypeId) (vs:List AV) {R:Type} (k:List AV->Option R),cAs E ob xs ts vs k=(cAs E ob xs ts vs some).bind k
 |[],[],[],R,k=>rfl
 |[],[],_::_,R,k=>rfl
 |[],_::_,_,R,k=>rfl
 |some x::xs,[],vs,R,k=>rfl
 |some x::xs,_::_,[],R,k=>rfl
 |some x::xs,t::ts,v::vs,R,k=>by
  simp only[cAs]
  rw[bWp ob xs ts vs (fun ys=>k (x::ys)),bWp ob xs ts vs (fun ys=>some (x::ys)),bFz];rfl
 |none::xs,[],vs,R,k=>rfl
 |none::xs,_::_,[],R,k=>rfl
 |none::xs,t::ts,v::vs,R,k=>by
  simp only[cAs]
  cases bSg v with
  |true=>rfl
  |false=>
   simp only[cond_false]
   rw[argK_b,argK_b (R:=List AV),bFz]
   congr 1
   funext y
   rw[bWp ob xs ts vs (fun ys=>k (y::ys)),bWp ob xs ts vs (fun ys=>some (y::ys)),bFz];rfl
theorem callV_b(o:Oper)(st:St)(g:FuncId)(ms:List Mode)(s:List Sh)(ts:List TypeId)(args:List AV)(k:St->Option R):cD9 E C o st g ms s ts args k=(cD9 E C o st g ms s ts args some).bind k:=by
 unfold cD9
 simp only[cAj]
 cases !ms.all Mode.isV with
 |true=>rfl
 |false=>
  simp only[cond_false]
  rw[bPy,bPy (R:=St),bFz]
  congr 1
  funext p
  rw[bWp,bWp (R:=St),bFz]
  congr 1
  funext ys
  generalize C g ys (s++bGn ms)=q
  cases q with
  |none=>rfl
  |some q=>simp only[Option.bind_some];generalize bYr st p.2 o.dst ms args _ _=q2;cases q2<;>rfl
theorem extK_b(x:Xt)(dst:Option Tmp)(st:St)(args:List AV)(k:St->Option R):extK x dst st args k=(extK x dst st args some).bind k:=by
 unfold extK
 split
 .rename_i τ f c key r
  cases bVo c r with
  |false=>rfl
  |true=>
   simp only[cond_true]
   split
   .split
    .exact bVs _ _ k
    .rfl
   .rfl
 .split
  .split
   .exact bVs _ _ k
   .rfl
  .rfl
 .rename_i f
  cases f st.ob args with
  |none=>rfl
  |some p=>
   obtain⟨b,v⟩:=p
   cases v<;>cases b<;>rfl
 .split
  .split
   .exact bVs _ _ k
   .rfl
  .rfl
 .rfl
theorem seqK_b(o:Oper)(st:St)(k:St->Option R):seqK E C o st k=(seqK E C o st some).bind k:=by
 unfold seqK
 split
 .split
  .exact storeR_b _ _ _ _ _ _ _ k
  .split
   .unfold storeF
    split
    .rename_i cs _
     generalize (Nat.blt _ cs.length&&(bBc E.ot _).isSome)=c
     cases c<;>rfl
    .rfl
   .exact storeK_b _ _ _ _ _ k
  .exact storeK_b _ _ _ _ _ k
 .exact cAv _ _ _ _ k
 .split
  .split
   .split
    .exact appOwnK_b _ _ _ _ _ _ k
    .exact appOwnK_b _ _ _ _ _ _ k
    .exact cAv _ _ _ _ k
   .rfl
  .split
   .unfold clearK
    split
    .split
     .rename_i e τ l _ _
      generalize (decide (e=τ)&&τ.one)=c
      cases c<;>rfl
     .rfl
    .rfl
   .rfl
  .split
   .unfold copyK
    split
    .split
     .rename_i e σ l _ _
      cases e.one with
      |false=>rfl
      |true=>
       simp only[cond_true]
       split
       .rename_i h
        rw[bRn,bRn (R:=St),bFz];rfl
       .rfl
     .rfl
    .rfl
   .rfl
  .split
   .split
    .rename_i ms s _
     cases ms.all Mode.isRo with
     |true=>exact cAv _ _ _ _ k
     |false=>
      simp only[cond_false]
      split
      .exact callV_b _ _ _ _ _ _ _ k
      .rfl
    .split
     .exact extK_b _ _ _ _ k
     .exact cAv _ _ _ _ k
   .rfl
  .exact cAv _ _ _ _ k
 .exact cAv _ _ _ _ k
theorem bTy(ops:Array Oper)(sl:List AV)(o:Oper)(k:Bool->List AV->Option R):bZc ops sl o k=(bZc ops sl o fun a b=>some (a,b)).bind fun p=>k p.1 p.2:=by
 unfold bZc
 split
 .rfl
 .split
  .split
   .rename_i b _
    cases (show Bool from b)<;>rfl
   .rfl
   .rfl
  .rfl
theorem cGi(ops:Array Oper)(o:Oper)(st:St)(k:St->Option R):bS0 E C ops o st k=(bS0 E C ops o st some).bind k:=by
 unfold bS0
 rw[bTy,bTy (R:=St),bFz]
 congr 1
 funext p
 obtain⟨b,sl⟩:=p
 cases b
 .rfl
 .exact seqK_b _ _ k
theorem anyOp_b(ops:Array Oper)(m:List Oper)(ob:Obs)(o:Oper)(sl:List AV)(k:List AV->Option R):cA9 E C ops m ob o sl k=(cA9 E C ops m ob o sl some).bind k:=by
 unfold cA9
 rw[bTy,bTy (R:=List AV),bFz]
 congr 1
 funext p
 obtain⟨b,sl⟩:=p
 cases b
 .rfl
 .dsimp only[cond_true]
  rw[cAw,cAw (R:=List AV),bFz]
  congr 1
  funext v
  split
  .exact bZa _ (some _) k
  .rfl
theorem callK_near{ob:Obs}{Cn:Nat->bCg}(hn:Near C Cn){fv:AV}{ts:List TypeId}{args:List AV}{k:AV->Option R}{v:R}(h:cA5 E C ob fv ts args k=some v):∃n,∀m,n<=m->cA5 E (Cn m) ob fv ts args k=some v:=by
 unfold cA5 at h
 split at h
 .rename_i g caps
  split at h
  .rename_i e hcl
   exact⟨0,fun _ _=>by unfold cA5;simp only[hcl];exact h⟩
  .rename_i hcl
   split at h
   .rename_i e hgr
    exact⟨0,fun _ _=>by unfold cA5;simp only[hcl,hgr];exact h⟩
   rename_i hgr
   split at h
   .rename_i ms s hsg
    cases hc:(s.any Sh.hasList&&(args.any bSg||caps.any owns0) || !ms.all Mode.isRo) with
    |true=>rw[hc]at h;cases h
    |false=>
     rw[hc]at h
     simp only[cond_false]at h
     rw[cA8]at h
     obtain⟨xs,hxs,h1⟩:=bind_some h
     obtain⟨z,hz,h2⟩:=bind_some h1
     obtain⟨n,hn⟩:=hn _ _ _ _ hz
     refine⟨n,fun m hm=>?_⟩
     unfold cA5
     simp only[hcl,hgr,hsg,hc,cond_false]
     rw[cA8,hxs]
     simp only[Option.bind_some,hn m hm]
     exact h2
   .cases h
 .cases h
theorem bNe{ob:Obs}{ρ:Operand->AV}{Cn:Nat->bCg}(hn:Near C Cn){o:Oper}{k:AV->Option R}{v:R}(h:bH7 E C ob ρ o k=some v):∃n,∀m,n<=m->bH7 E (Cn m) ob ρ o k=some v:=by
 obtain⟨dst,op,type,pos,after,guard⟩:=o
 cases op with
 |call c=>
  obtain⟨callee,args,ts⟩:=c
  cases callee with
  |value g=>
   obtain⟨n,h1⟩:=callK_near hn (show cA5 E C ob (ρ g) ts.toList (args.toList.map ρ) k=some v from h)
   exact⟨n,h1⟩
  |builtin b=>exact⟨0,fun _ _=>h⟩
  |invoke x m=>exact⟨0,fun _ _=>h⟩
 |makeFunc fn first caps=>cases fn<;>exact⟨0,fun _ _=>h⟩
 |_=>exact⟨0,fun _ _=>h⟩
theorem callV_near{Cn:Nat->bCg}(hn:Near C Cn){o:Oper}{st:St}{g:FuncId}{ms:List Mode}{s:List Sh}{ts:List TypeId}{args:List AV}{k:St->Option R}{v:R}(h:cD9 E C o st g ms s ts args k=some v):
  ∃n,∀m,n<=m->cD9 E (Cn m) o st g ms s ts args k=some v:=by
 unfold cD9 at h
 simp only[cAj]at h
 cases hg : !ms.all Mode.isV with
 |true=>rw[hg]at h;cases h
 |false=>
  rw[hg]at h
  simp only[cond_false]at h
  rw[bPy]at h
  obtain⟨p,hp,h1⟩:=bind_some h
  rw[bWp]at h1
  obtain⟨ys,hy,h2⟩:=bind_some h1
  obtain⟨z,hz,h3⟩:=bind_some h2
  obtain⟨n,hn⟩:=hn _ _ _ _ hz
  refine⟨n,fun m hm=>?_⟩
  unfold cD9
  simp only[cAj]
  rw[hg]
  simp only[cond_false]
  rw[bPy,hp]
  simp only[Option.bind_some]
  rw[bWp,hy]
  simp only[Option.bind_some,hn m hm]
  exact h3
theorem seqK_near{Cn:Nat->bCg}(hn:Near C Cn){o:Oper}{st:St}{k:St->Option R}{v:R}(h:seqK E C o st k=some v):∃n,∀m,n<=m->seqK E (Cn m) o st k=some v:=by
 unfold seqK at h
 split at h
 .rename_i t a x ho
  exact⟨0,fun _ _=>by unfold seqK;rw[ho];exact h⟩
 .rename_i t m ps ho
  obtain⟨n,h1⟩:=bNe hn h
  exact⟨n,fun m' hm=>by unfold seqK;rw[ho];exact h1 m' hm⟩
 .rename_i c ho
  obtain⟨callee,args,ts⟩:=c
  cases callee with
  |builtin b=>
   by_cases hb:b = .append
   .subst hb
    simp only at h
    split at h
    .rename_i x y hargs
     split at h
     .rename_i key hx
      exact⟨0,fun _ _=>by unfold seqK;rw[ho];simp only[hargs,hx];exact h⟩
     .rename_i key len hx
      exact⟨0,fun _ _=>by unfold seqK;rw[ho];simp only[hargs,hx];exact h⟩
     .rename_i h1 h2
      obtain⟨n,h3⟩:=bNe hn h
      refine⟨n,fun m' hm=>?_⟩
      unfold seqK
      rw[ho]
      dsimp only
      rw[hargs]
      dsimp only
      generalize hx:bCm st.sl x=a at h1 h2
      cases a<;>first
       |exact h3 m' hm
       |exact(h1 _ rfl).elim
       |(rename_i key off len;cases off<;>first|exact(h2 _ _ rfl).elim|exact h3 m' hm)
    .cases h
   by_cases hb2:b = .clear
   .subst hb2
    exact⟨0,fun _ _=>by unfold seqK;rw[ho];exact h⟩
   by_cases hb3:b = .copy
   .subst hb3
    exact⟨0,fun _ _=>by unfold seqK;rw[ho];exact h⟩
   .have he:∀C',seqK E C' o st k=bH7 E C' st.ob (bCm st.sl) o fun v=>k (st.put o.dst v):=by
     intro C'
     unfold seqK
     rw[ho]
     cases b<;>first|rfl|exact absurd rfl hb|exact absurd rfl hb2|exact absurd rfl hb3
    have h':bH7 E C st.ob (bCm st.sl) o (fun v=>k (st.put o.dst v))=some v:=by
     rw[<-he];unfold seqK;rw[ho];exact h
    obtain⟨n,h3⟩:=bNe hn h'
    exact⟨n,fun m' hm=>by rw[he];exact h3 m' hm⟩
  |value g=>
   simp only at h
   split at h
   .rename_i g' caps hg
    split at h
    .rename_i ms s hsg
     cases hr:ms.all Mode.isRo with
     |false=>
      rw[hr]at h
      simp only[cond_false]at h
      split at h
      .obtain⟨n,h3⟩:=callV_near hn h
       exact⟨n,fun m' hm=>by unfold seqK;rw[ho];simp only[hg,hsg,hr,cond_false];exact h3 m' hm⟩
      .cases h
     |true=>
      rw[hr]at h
      simp only[cond_true]at h
      obtain⟨n,h3⟩:=bNe hn h
      exact⟨n,fun m' hm=>by unfold seqK;rw[ho];simp only[hg,hsg,hr,cond_true];exact h3 m' hm⟩
    .rename_i hsg
     have go:∀(h':bH7 E C st.ob (bCm st.sl) o (fun v=>k (st.put o.dst v))=some v) (he:∀C',seqK E C' o st k=bH7 E C' st.ob (bCm st.sl) o fun v=>k (st.put o.dst v)),∃n,∀m,n<=m->seqK E (Cn m) o st k=some v:=fun h' he=>by
      obtain⟨n,h3⟩:=bNe hn h'
      exact⟨n,fun m' hm=>by rw[he];exact h3 m' hm⟩
     cases hso:bBc E.so g' with
     |none=>
      rw[hso]at h
      exact go h fun C'=>by unfold seqK;rw[ho];simp only[hg,hsg,hso]
     |some x=>
      rw[hso]at h
      cases caps with
      |nil=>exact⟨0,fun _ _=>by unfold seqK;rw[ho];simp only[hg,hsg,hso];exact h⟩
      |cons c cs=>exact go h fun C'=>by unfold seqK;rw[ho];simp only[hg,hsg,hso]
   .cases h
  |invoke x m=>
   obtain⟨n,h3⟩:=bNe hn h
   exact⟨n,fun m' hm=>by unfold seqK;rw[ho];exact h3 m' hm⟩
 .rename_i h1 h2 h3
  have he:∀C',seqK E C' o st k=bH7 E C' st.ob (bCm st.sl) o fun v=>k (st.put o.dst v):=by
   intro C'
   unfold seqK
   split
   .rename_i t a x ho;exact absurd ho (h1 t a x)
   .rename_i t m ps ho;exact absurd ho (h2 t m ps)
   .rename_i c ho;exact absurd ho (h3 c)
   .rfl
  obtain⟨n,h4⟩:=bNe hn h
  exact⟨n,fun m' hm=>by rw[he];exact h4 m' hm⟩
theorem cFc{ops:Array Oper}{sl:List AV}{o:Oper}{k:Bool->List AV->Option R}{r:R}(h:bZc ops sl o k=some r):∃b sl',(bZc ops sl o fun a b=>some (a,b))=some (b,sl')/\k b sl'=some r:=by
 rw[bTy]at h
 obtain⟨p,h1,h2⟩:=bind_some h
 exact⟨p.1,p.2,h1,h2⟩
theorem cFg{Cn:Nat->bCg}(hn:Near C Cn){ops:Array Oper}{o:Oper}{st:St}{k:St->Option R}{v:R}(h:bS0 E C ops o st k=some v):∃n,∀m,n<=m->bS0 E (Cn m) ops o st k=some v:=by
 unfold bS0 at h
 obtain⟨b,sl,h1,h2⟩:=cFc h
 cases b with
 |false=>exact⟨0,fun m _=>by unfold bS0;rw[bTy,h1];exact h2⟩
 |true=>
  obtain⟨n,h3⟩:=seqK_near hn h2
  exact⟨n,fun m hm=>by unfold bS0;rw[bTy,h1];exact h3 m hm⟩
theorem anyOp_near{Cn:Nat->bCg}(hn:Near C Cn){ops:Array Oper}{l:List Oper}{ob:Obs}{o:Oper}{sl:List AV}{k:List AV->Option R}{v:R}(h:cA9 E C ops l ob o sl k=some v):∃n,∀m,n<=m->cA9 E (Cn m) ops l ob o sl k=some v:=by
 unfold cA9 at h
 obtain⟨b,sl',h1,h2⟩:=cFc h
 cases b with
 |false=>exact⟨0,fun m _=>by unfold cA9;rw[bTy,h1];exact h2⟩
 |true=>
  simp only[cond_true]at h2
  obtain⟨n,h3⟩:=bNe hn h2
  exact⟨n,fun m hm=>by unfold cA9;rw[bTy,h1];exact h3 m hm⟩
theorem multi_all{α:Type}{l:List (Option α)}{r:α}(h:bAa l=some r):l≠[]/\∀x∈l,x=some r:=by
 unfold bAa at h
 split at h
 .cases h
 .rename_i x l
  split at h
  .rename_i hx
   refine⟨by simp,fun y hy=>?_⟩
   rcases List.mem_cons.1 hy with e|hy
   .rw[e];exact h
   .rw[hx y hy];exact h
  .cases h
open Classical in
theorem multi_of{α:Type}{l:List (Option α)}{r:α}(h0:l≠[])(h:∀x∈l,x=some r):bAa l=some r:=by
 cases l with
 |nil=>exact absurd rfl h0
 |cons x l=>
  have hx:=h x (List.mem_cons_self ..)
  show(if ∀y∈l,y=x then x else none)=some r
  rw[if_pos fun y hy=>by rw[hx,h y (List.mem_cons_of_mem _ hy)]]
  exact hx
open Classical in
theorem bTm{α:Type}(x:Option α):∀(n:Nat),bAa (List.replicate (n+1) x)=x:=fun n=>by
 show(if ∀y∈List.replicate n x,y=x then x else none)=x
 rw[if_pos fun y hy=>List.eq_of_mem_replicate hy]
theorem cFs{α:Type}(x:Option α):bAa [x,x]=x:=bTm x 1
theorem cFr{α:Type}(x:Option α):bAa [x,x,x]=x:=bTm x 2
theorem cFq{α:Type}(x:Option α):bAa [x,x,x,x]=x:=bTm x 3
theorem cFp{α:Type}(x:Option α):bAa [x,x,x,x,x]=x:=bTm x 4
theorem cFo{α:Type}(x:Option α):bAa [x,x,x,x,x,x]=x:=bTm x 5
theorem cFt{α:Type}(x:Option α):bAa [x]=x:=bTm x 0
theorem nears{α β:Type}{F:β->Option α}{Fn:Nat->β->Option α}{r:α}:∀(l:List β),(∀x∈l,∃n,∀m,n<=m->Fn m x=some r)->∃n,∀m,n<=m->∀x∈l,Fn m x=some r
 |[],_=>⟨0,fun _ _ x hx=>by cases hx⟩
 |x::l,h=>by
  obtain⟨n1,h1⟩:=h x (List.mem_cons_self ..)
  obtain⟨n2,h2⟩:=nears (F:=F) l fun y hy=>h y (List.mem_cons_of_mem _ hy)
  refine⟨max n1 n2,fun m hm y hy=>?_⟩
  rcases List.mem_cons.1 hy with e|hy
  .rw[e];exact h1 m (by omega)
  .exact h2 m (by omega) y hy
theorem explore_near{Cn:Nat->bCg}(hn:Near C Cn){ops:Array Oper}{K:St->Option R}{Kn:Nat->St->Option R}(hK:∀st r,K st=some r->∃n,∀m,n<=m->Kn m st=some r):∀(n:Nat) (listed:Array Bool) (st:St) (r:R),
  explore E C ops K n listed st=some r->∃q,∀m,q<=m->explore E (Cn m) ops (Kn m) n listed st=some r:=by
 intro n
 induction n with
 |zero=>
  intro listed st r h
  unfold explore at h
  split at h
  .rename_i hr
   obtain⟨q,h1⟩:=hK st r h
   exact⟨q,fun m hm=>by unfold explore;rw[hr];exact h1 m hm⟩
  .cases h
 |succ n ih=>
  intro listed st r h
  have one:∀(i:Nat),(match ops[i]? with|some o=>bS0 E C ops o st (explore E C ops K n (listed.setIfInBounds i true))|none=>none)=some r ->
    ∃q,∀m,q<=m->(match ops[i]? with|some o=>bS0 E (Cn m) ops o st (explore E (Cn m) ops (Kn m) n (listed.setIfInBounds i true))|none=>none)=some r:=by
   intro i h
   cases ho:ops[i]? with
   |none=>rw[ho]at h;cases h
   |some o=>
    rw[ho]at h
    simp only at h ⊢
    rw[cGi]at h
    obtain⟨st',h1,h2⟩:=bind_some h
    obtain⟨n1,h3⟩:=cFg hn h1
    obtain⟨n2,h4⟩:=ih _ _ _ h2
    refine⟨max n1 n2,fun m hm=>?_⟩
    rw[cGi,h3 m (by omega)]
    exact h4 m (by omega)
  unfold explore at h
  split at h
  .rename_i hr
   obtain⟨q,h1⟩:=hK st r h
   exact⟨q,fun m hm=>by unfold explore;rw[hr];exact h1 m hm⟩
  .rename_i j js hr
   split at h
   .rename_i i hi
    obtain⟨q,h1⟩:=one i h
    exact⟨q,fun m hm=>by unfold explore;rw[hr];simp only[hi];exact h1 m hm⟩
   .rename_i hi
    obtain⟨h0,hall⟩:=multi_all h
    obtain⟨q,h1⟩:=nears (F:=fun i=>match ops[i]? with|some o=>bS0 E C ops o st (explore E C ops K n (listed.setIfInBounds i true))|none=>none) (Fn:=fun m i=>match ops[i]? with|some o=>bS0 E (Cn m) ops o st (explore E (Cn m) ops (Kn m) n (listed.setIfInBounds i true))|none=>none) (j::js) fun i hi'=>one i (hall _ (List.mem_map_of_mem hi'))
    refine⟨q,fun m hm=>?_⟩
    unfold explore
    rw[hr]
    simp only[hi]
    refine multi_of (by simp) fun x hx=>?_
    obtain⟨i,hi',rfl⟩:=List.mem_map.1 hx
    exact h1 m hm i hi'
def bL5(s:List Sh)(D:List It->St->Option (dens s))(Dn:Nat->List It->St->Option (dens s)):Prop:=∀t st r,D t st=some r->∃n,∀m,n<=m->Dn m t st=some r
theorem cCi{s:List Sh}{D:List It->St->Option (dens s)}{Dn:Nat->List It->St->Option (dens s)}{Cn:Nat->bCg}(hD:bL5 s D Dn)(hC:Near C Cn){t:List It}{st:St}{r:dens s}(h:bYw E s D C t st=some r):
  ∃n,∀m,n<=m->bYw E s (Dn m) (Cn m) t st=some r:=by
 cases t with
 |nil=>exact⟨0,fun _ _=>h⟩
 |cons i k=>
  cases i with
  |code c=>
   cases c with
   |ret=>exact⟨0,fun _ _=>h⟩
   |skip=>exact hD _ _ _ h
   |seq a b=>exact hD _ _ _ h
   |cond c x y=>
    obtain⟨b,hb,h1⟩:=cA6 (show cFa (bCm st.sl c) (fun b=>bif b then D (.code x::k) st else D (.code y::k) st)=some r from h)
    cases b with
    |true=>
     obtain⟨n,h2⟩:=hD _ _ _ h1
     exact⟨n,fun m hm=>by show cFa (bCm st.sl c) _=_;rw[hb];exact h2 m hm⟩
    |false=>
     obtain⟨n,h2⟩:=hD _ _ _ h1
     exact⟨n,fun m hm=>by show cFa (bCm st.sl c) _=_;rw[hb];exact h2 m hm⟩
   |block id b=>exact hD _ _ _ h
   |loop b=>exact hD _ _ _ h
   |exit id=>
    simp only[bYw]at h
    split at h
    .rename_i k' hk
     obtain⟨n,h2⟩:=hD _ _ _ h
     exact⟨n,fun m hm=>by simp only[bYw,hk];exact h2 m hm⟩
    .cases h
   |region id ops draw=>
    simp only[bYw]at h
    cases draw with
    |false=>
     obtain⟨n,h2⟩:=hD _ _ _ h
     exact⟨n,fun m hm=>by simp only[bYw];exact h2 m hm⟩
    |true=>
     simp only[cond_true]at h
     split at h
     .rename_i q hq
      cases hb:Nat.ble 1000 q with
      |true=>
       rw[hb]at h
       simp only[cond_true]at h
       cases hs:Region.noSelect ops with
       |false=>rw[hs]at h;cases h
       |true=>
        rw[hs]at h
        obtain⟨n,h2⟩:=explore_near hC (Kn:=fun m=>Dn m k) (fun st r h=>hD _ _ _ h) _ _ _ _ h
        exact⟨n,fun m hm=>by simp only[bYw,hq,hb,hs,cond_true];exact h2 m hm⟩
      |false=>
       rw[hb]at h
       simp only[cond_false]at h
       cases hc:cutOK ops q with
       |false=>rw[hc]at h;cases h
       |true=>
        rw[hc]at h
        obtain⟨n,h2⟩:=hD _ _ _ h
        exact⟨n,fun m hm=>by simp only[bYw,hq,hb,hc,cond_true,cond_false];exact h2 m hm⟩
     .cases h
   |_=>cases h
  |ops all l=>
   cases l with
   |nil=>exact hD _ _ _ h
   |cons o l=>
    have h0:bS0 E C all o st (fun st=>D (.ops all l::k) st)=some r:=h
    rw[cGi]at h0
    obtain⟨st',h1,h2⟩:=bind_some h0
    obtain⟨n1,h3⟩:=cFg hC h1
    obtain⟨n2,h4⟩:=hD _ _ _ h2
    refine⟨max n1 n2,fun m hm=>?_⟩
    show bS0 E (Cn m) all o st (fun st=>Dn m (.ops all l::k) st)=some r
    rw[cGi,h3 m (by omega)]
    exact h4 m (by omega)
  |aops all l q=>
   cases l with
   |nil=>exact hD _ _ _ h
   |cons o l=>
    have h0:cA9 E C all q st.ob o st.sl (fun sl=>D (.aops all l q::k) { st with sl:=sl })=some r:=h
    rw[anyOp_b]at h0
    obtain⟨sl,h1,h2⟩:=bind_some h0
    obtain⟨n1,h3⟩:=anyOp_near hC h1
    obtain⟨n2,h4⟩:=hD _ _ _ h2
    refine⟨max n1 n2,fun m hm=>?_⟩
    show cA9 E (Cn m) all q st.ob o st.sl (fun sl=>Dn m (.aops all l q::k) { st with sl:=sl })=some r
    rw[anyOp_b,h3 m (by omega)]
    exact h4 m (by omega)
  |inLoop c=>exact hD _ _ _ h
  |loopAt c=>exact hD _ _ _ h
  |inBlock id=>exact hD _ _ _ h
def bVr(E:Env)(D:(s:List Sh)->List It->St->Option (dens s)):bCg:=fun f args s=>
 match initSt E f args with
 |some (c,st)=>D s [.code c] st
 |none=>none
def bBg(E:Env)(D:(s:List Sh)->List It->St->Option (dens s)):bCg:=fun f args s=>
 match bBc E.hk f with
 |some _=>none
 |none=>bVr E D f args s
def bHe(E:Env)(D:(s:List Sh)->List It->St->Option (dens s)):bCg:=fun f args s=>
 match bBc E.hk f with
 |some h=>h.run (bBg E D) args s
 |none=>bVr E D f args s
noncomputable def runF(E:Env):Nat->(s:List Sh)->List It->St->Option (dens s)
 |0,_,_,_=>none
 |n+1,s,t,st=>bYw E s (runF E n s) (bHe E (runF E n)) t st
theorem cF8{D:(s:List Sh)->List It->St->Option (dens s)}{Dn:Nat->(s:List Sh)->List It->St->Option (dens s)}(hD:∀s,bL5 s (D s) (fun n=>Dn n s)):Near (bVr E D) (fun n=>bVr E (Dn n)):=by
 intro g xs s z h
 unfold bVr at h
 split at h
 .rename_i c st hi
  obtain⟨n,h1⟩:=hD s _ _ _ h
  exact⟨n,fun m hm=>by unfold bVr;simp only[hi];exact h1 m hm⟩
 .cases h
theorem call1_near{D:(s:List Sh)->List It->St->Option (dens s)}{Dn:Nat->(s:List Sh)->List It->St->Option (dens s)}(hD:∀s,bL5 s (D s) (fun n=>Dn n s)):Near (bBg E D) (fun n=>bBg E (Dn n)):=by
 intro g xs s z h
 unfold bBg at h
 split at h
 .cases h
 .rename_i hn
  obtain⟨n,h1⟩:=cF8 hD g xs s z h
  exact⟨n,fun m hm=>by unfold bBg;simp only[hn];exact h1 m hm⟩
theorem cAd{D:(s:List Sh)->List It->St->Option (dens s)}{Dn:Nat->(s:List Sh)->List It->St->Option (dens s)}(hD:∀s,bL5 s (D s) (fun n=>Dn n s)):Near (bHe E D) (fun n=>bHe E (Dn n)):=by
 intro g xs s z h
 unfold bHe at h
 split at h
 .rename_i k hk
  obtain⟨n,h1⟩:=k.near (call1_near hD) xs s z h
  exact⟨n,fun m hm=>by unfold bHe;simp only[hk];exact h1 m hm⟩
 .rename_i hk
  obtain⟨n,h1⟩:=cF8 hD g xs s z h
  exact⟨n,fun m hm=>by unfold bHe;simp only[hk];exact h1 m hm⟩
theorem runF_mono:∀(n:Nat) (s:List Sh) (t:List It) (st:St) (r:dens s),runF E n s t st=some r->runF E (n+1) s t st=some r
 |0,s,t,st,r,h=>by cases h
 |n+1,s,t,st,r,h=>by
  have hD:∀s,bL5 s (runF E n s) (fun _=>runF E (n+1) s):=fun s t st r h=>⟨0,fun _ _=>runF_mono n s t st r h⟩
  obtain⟨m,h1⟩:=cCi (hD s) (cAd (Dn:=fun _=>runF E (n+1)) hD) (show bYw E s (runF E n s) (bHe E (runF E n)) t st=some r from h)
  exact h1 m (Nat.le_refl _)
theorem cGm{n m:Nat}(hm:n<=m){s:List Sh}{t:List It}{st:St}{r:dens s}(h:runF E n s t st=some r):runF E m s t st=some r:=by
 induction hm with
 |refl=>exact h
 |step _ ih=>exact runF_mono _ s t st r ih
open Classical in
noncomputable def DM(E:Env)(s:List Sh)(t:List It)(st:St):Option (dens s):=
 if h:∃r,∃n,runF E n s t st=some r then some h.choose else none
noncomputable def DF(E:Env):bCg:=bHe E (DM E)
theorem DM_iff{s:List Sh}{t:List It}{st:St}{r:dens s}:DM E s t st=some r↔∃n,runF E n s t st=some r:=by
 unfold DM
 constructor
 .intro h
  split at h
  .rename_i he
   cases h
   exact he.choose_spec
  .cases h
 .rintro⟨n,h⟩
  have he:∃r,∃n,runF E n s t st=some r:=⟨r,n,h⟩
  rw[dif_pos he]
  obtain⟨m,h2⟩:=he.choose_spec
  have h3:=cGm (Nat.le_max_left n m) h
  have h4:=cGm (Nat.le_max_right n m) h2
  rw[h3]at h4
  exact h4.symm
theorem DM_fix(s:List Sh)(t:List It)(st:St):DM E s t st=bYw E s (DM E s) (DF E) t st:=by
 apply Option.ext
 intro r
 constructor
 .intro h
  obtain⟨n,h⟩:=DM_iff.1 h
  cases n with
  |zero=>cases h
  |succ n=>
   have hD:∀s,bL5 s (runF E n s) (fun _=>DM E s):=fun s t st r h=>⟨0,fun _ _=>DM_iff.2 ⟨n,h⟩⟩
   obtain⟨m,h1⟩:=cCi (hD s) (cAd (Dn:=fun _=>DM E) hD) (show bYw E s (runF E n s) (bHe E (runF E n)) t st=some r from h)
   exact h1 m (Nat.le_refl _)
 .intro h
  have hD:∀s,bL5 s (DM E s) (fun n=>runF E n s):=fun s t st r h=>by
   obtain⟨n,h⟩:=DM_iff.1 h
   exact⟨n,fun m hm=>cGm hm h⟩
  obtain⟨n,h1⟩:=cCi (hD s) (cAd (Dn:=runF E) hD) h
  exact DM_iff.2 ⟨n+1,h1 n (Nat.le_refl _)⟩
theorem DM_run(s:List Sh):∀(n:Nat) (t:List It) (st:St),DM E s t st=runM E s (DM E s) (DF E) n t st
 |0,t,st=>rfl
 |n+1,t,st=>by
  have ih:runM E s (DM E s) (DF E) n=DM E s:=funext fun t=>funext fun st=>(DM_run s n t st).symm
  unfold runM
  split
  .rfl
  .rw[ih];exact DM_fix s t st
noncomputable def D0(E:Env)(n:Nat)(f:FuncId)(a:List AV)(s:List Sh):Option (dens s):=
 match bBc E.hk f with
 |some _=>DF E f a s
 |none=>match initSt E f a with
  |some (c,st)=>runM E s (DM E s) (DF E) n [.code c] st
  |none=>none
theorem D_eq(n:Nat)(f:FuncId)(a:List AV)(s:List Sh):DF E f a s=D0 E n f a s:=by
 unfold D0
 cases h:bBc E.hk f with
 |some k=>rfl
 |none=>
  unfold DF bHe bVr
  simp only[h]
  split
  .exact DM_run s n _ _
  .rfl
theorem D_hk{f:FuncId}{k:HK}(h:bBc E.hk f=some k){a:List AV}{s:List Sh}:DF E f a s=k.run (bBg E (DM E)) a s:=by
 show bHe E (DM E) f a s=_
 unfold bHe
 simp only[h]
theorem bS5{g:FuncId}(h:bBc E.hk g=none){a:List AV}{s:List Sh}:bBg E (DM E) g a s=DF E g a s:=by
 show _=bHe E (DM E) g a s
 unfold bBg bHe
 simp only[h]
theorem bAy(n:Nat)(s:List Sh)(b:Code)(k:List It)(st:St):DM E s (.loopAt b::k) st=runM E s (DM E s) (DF E) n (.code b :: .inLoop b::k) st:=by
 rw[DM_fix]
 exact DM_run s n _ _
end
end
section
section
variable {b0:Nat->Prop} {β:bB5} {ob:Obs} {w:World}
theorem bZf{α:Type}:∀{l:List α} {t:Nat} {x d:α},l.getD t d=x->t<l.length->setL l t x=l
 |[],t,x,d,_,h=>by simp at h
 |y::r,0,x,d,h,_=>by simp at h;simp[setL,h]
 |y::r,t+1,x,d,h,hl=>by
  simp only[setL]
  rw[bZf (l:=r) (t:=t) (d:=d) (by simpa using h) (by simpa using hl)]
theorem slot_lt{sl:List AV}{t:Nat}(h:sl.getD t .any ≠ .any):t<sl.length:=by
 rcases Nat.lt_or_ge t sl.length with h'|h'
 .exact h'
 .exact absurd (by simp[List.getD,List.getElem?_eq_none h']) h
theorem cCb{R:Type}{f:Nat->List Nat}{sl:List AV}{tmps:Array Value}(hS:SR b0 β ob w sl tmps f){ops:Array Oper}{o:Oper}{k:Bool->List AV->Option R}{r:R}(hk:bZc ops sl o k=some r):
  k (Region.wanted o (yielded ops tmps)) sl=some r:=by
 unfold bZc at hk
 split at hk
 .rename_i hg
  simp only[Region.wanted,hg]
  exact hk
 .rename_i j wt hg
  split at hk
  .rename_i t ht
   have hsl:=hS.slot t
   split at hk
   .rename_i b hb
    rw[hb]at hsl
    obtain⟨hv,_⟩:=bK2 hsl
    have hlt:t<sl.length:=slot_lt (by rw[hb];simp)
    have hlt':t<tmps.size:=by rw[hS.size];exact hlt
    have hy:yielded ops tmps j=some b:=by
     unfold yielded
     rw[ht]
     have:tmps[t]?=some (.bool b):=by
      rw[Array.getElem?_eq_getElem hlt']
      simpa[hlt']using hv
     simp[this]
    have hsame:=fun x (hx:sl.getD t .any=x)=>bZf (l:=sl) (t:=t) (x:=x) (d:=.any) hx hlt
    have hw:Region.wanted o (yielded ops tmps)=(some b==some wt):=by simp only[Region.wanted,hg,hy]
    rw[hw]
    cases b with
    |true=>
     simp only[cond_true]at hk
     rw[hsame _ hb]at hk
     cases wt<;>exact hk
    |false=>
     simp only[cond_false]at hk
     rw[hsame _ hb]at hk
     cases wt<;>exact hk
   .rename_i hb
    rw[hb]at hsl
    have hv:tmps.getD t undef=undef:=hsl.1
    have hy:yielded ops tmps j=none:=by
     unfold yielded
     rw[ht]
     cases h:tmps[t]? with
     |none=>simp[h]
     |some x=>
      have:x=undef:=by
       have h2:tmps.getD t undef=x:=by simp[h]
       rw[<-h2];exact hv
      subst this
      simp[h,undef]
    have hw:Region.wanted o (yielded ops tmps)=false:=by simp[Region.wanted,hg,hy]
    rw[hw]
    exact hk
   .cases hk
  .cases hk
theorem Rel.skip{st:St}{tmps:Array Value}(h:Rel b0 β st w tmps)(dst:Option Nat):Goes b0 β st (st.put dst .non) w w (putT tmps dst undef):=by
 obtain⟨β',h1,h2⟩:=h.put (w':=w) (used:=[]) (av:=.non) (v:=undef) (bs:=[]) (Done.stay ⟨rfl,rfl⟩) dst
 exact⟨⟨β',h1,h2⟩,Same.refl _ _⟩
theorem bT6{P:Program}{R:Type}{E:Env}(hA:bNb P E){C:bCg}(hC:bJu P E C){st:St}{a:Act}(hS:Rel b0 β st w a.tmps){ops:Array Oper}{o:Oper}{k:St->Option R}{r:R}(hk:bS0 E C ops o st k=some r):
  ∃st',k st'=some r/\st'.f=st.f/\∀next Q,(∀v w',Goes b0 β st st' w w' (putT a.tmps o.dst v)->next (a.put o.dst v) w') ->
   if Region.wanted o (yielded ops a.tmps)=true then o.wp P a w next Q else next (a.put o.dst undef) w:=by
 have h1:=cCb hS.sr hk
 cases hw:Region.wanted o (yielded ops a.tmps) with
 |true=>
  rw[hw]at h1
  obtain⟨st',h2,h3,h4⟩:=seqK_sound hA hC hS h1
  exact⟨st',h2,h3,fun next Q hn=>by rw[if_pos rfl];exact h4 next Q hn⟩
 |false=>
  rw[hw]at h1
  refine⟨_,h1,by cases o.dst<;>rfl,fun next Q hn=>?_⟩
  rw[if_neg (by simp)]
  exact hn undef w (hS.skip o.dst)
theorem Goes.trans{st st1 st2:St}{w1 w2:World}{tmps1 tmps2:Array Value}{β1:bB5}(h:Rel b0 β1 st1 w1 tmps1)(ho:∀b,Own β1 st1.ob b->Own β st.ob b\/w.heap.size<=b)(hs:Same (Own β st.ob) w w1)(h':Goes b0 β1 st1 st2 w1 w2 tmps2):Goes b0 β st st2 w w2 tmps2:=by
 obtain⟨⟨β2,g1,g2⟩,g3⟩:=h'
 refine⟨⟨β2,g1,fun b hb=>?_⟩,hs.trans g3 fun b hlt hb=>(ho b hb).resolve_right (by omega)⟩
 rcases g2 b hb with h1|h1
 .exact ho b h1
 .exact .inr (Nat.le_trans hs.1 h1)
theorem Goes.refl{st:St}{tmps:Array Value}(h:Rel b0 β st w tmps):Goes b0 β st st w w tmps:=⟨⟨β,h,fun b hb=>.inl hb⟩,Same.refl _ _⟩
theorem put_defers(a:Act)(dst:Option Nat)(v:Value):(a.put dst v).defers=a.defers:=by cases dst<;>rfl
def Kept(np:Nat)(a a':Act):Prop:=a'.defers=a.defers/\∀i,i<np->a'.tmps.getD i undef=a.tmps.getD i undef
theorem Kept.refl(np:Nat)(a:Act):Kept np a a:=⟨rfl,fun _ _=>rfl⟩
theorem Kept.trans{np:Nat}{a a1 a2:Act}(h:Kept np a a1)(h':Kept np a1 a2):Kept np a a2:=⟨h'.1.trans h.1,fun i hi=>(h'.2 i hi).trans (h.2 i hi)⟩
theorem Kept.put{np:Nat}{a a1:Act}{o:Oper}(h:Kept np a a1)(ho:cBv np o=true)(v:Value):Kept np a (a1.put o.dst v):=by
 refine⟨(put_defers _ _ _).trans h.1,fun i hi=>?_⟩
 rw[bQz,<-h.2 i hi]
 unfold cBv at ho
 cases hd:o.dst with
 |none=>rfl
 |some t=>
  rw[hd]at ho
  have:=Nat.le_of_ble_eq_true ho
  simp only[putT,Array.getD_eq_getD_getElem?]
  rw[Array.getElem?_setIfInBounds_ne (by omega)]
def bPq(E:Env)(np:Nat)(b0:Nat->Prop)(β:bB5)(st:St)(w:World)(a:Act)(s:List Sh)(k:List It)(n:Nat)(r:dens s):Exit->Act->World->Prop
 |.normal,a',w'=>∃st' n',n'<=n/\runF E n' s k st'=some r/\st'.f=st.f/\Kept np a a'/\Goes b0 β st st' w w' a'.tmps
 |_,_,_=>False
theorem ops_sound{P:Program}{E:Env}(hA:bNb P E){s:List Sh}{all:Array Oper}{np:Nat}(hdst:∀(i:Nat) o,all[i]?=some o->cBv np o=true){k:List It}{r:dens s}:∀(l:List Oper) (i n:Nat) (β:bB5) (st:St) (a:Act) (w:World) (β0:bB5) (st0:St) (w0:World) (a0:Act) (n0:Nat),
  all.toList.drop i=l->runF E n s (.ops all l::k) st=some r->n<=n0->(∀m,m<n0->bJu P E (bHe E (runF E m)))->Rel b0 β st w a.tmps ->
  (∀b,Own β st.ob b->Own β0 st0.ob b\/w0.heap.size<=b)->Same (Own β0 st0.ob) w0 w->st.f=st0.f->Kept np a0 a ->
  wpOps P all (bPq E np b0 β0 st0 w0 a0 s k n0 r) (List.range' i l.length) a w
 |[],i,n,β,st,a,w,β0,st0,w0,a0,n0,hl,hr,hn,hC,hS,ho,hs,hf,hd=>by
  cases n with
  |zero=>cases hr
  |succ n=>
   have hr':runF E n s k st=some r:=hr
   show bPq E np b0 β0 st0 w0 a0 s k n0 r .normal a w
   exact⟨st,n,by omega,hr',hf,hd,Goes.trans hS ho hs (Goes.refl hS)⟩
 |o::l,i,n,β,st,a,w,β0,st0,w0,a0,n0,hl,hr,hn,hC,hS,ho,hs,hf,hd=>by
  cases n with
  |zero=>cases hr
  |succ n=>
   have hi:all[i]?=some o:=by
    have:=congrArg (fun x:List Oper=>x[0]?) hl
    simpa using this
   have hl':all.toList.drop (i+1)=l:=by
    rw[<-List.drop_drop,hl];rfl
   have hr':bS0 E (bHe E (runF E n)) all o st (fun st=>runF E n s (.ops all l::k) st)=some r:=hr
   obtain⟨st1,h1,h2,h3⟩:=bT6 hA (hC n (by omega)) hS hr'
   show wpOps P all _ (i::List.range' (i+1) l.length) a w
   rw[wpOps_cons]
   unfold wpOp
   rw[hi]
   dsimp only
   have hgo:=h3 (wpOps P all (bPq E np b0 β0 st0 w0 a0 s k n0 r) (List.range' (i+1) l.length)) (bPq E np b0 β0 st0 w0 a0 s k n0 r) fun v w' hg=>by
    obtain⟨⟨β1,g1,g2⟩,g3⟩:=hg
    refine ops_sound hA hdst l (i+1) n β1 st1 (a.put o.dst v) w' β0 st0 w0 a0 n0 hl' h1 (by omega) hC (by rw[bQz];exact g1) (fun b hb=>?_) ?_ (h2.trans hf) (hd.put (hdst _ _ hi) v)
    .rcases g2 b hb with h|h
     .exact ho b h
     .exact .inr (Nat.le_trans hs.1 h)
    .exact hs.trans g3 fun b hlt hb=>(ho b hb).resolve_right (by omega)
   split
   .rename_i hw;rw[if_pos hw]at hgo;exact .inl hgo
   .rename_i hw;rw[if_neg hw]at hgo;exact hgo
theorem region_sound{P:Program}{E:Env}(hA:bNb P E){s:List Sh}{ops:Array Oper}{np:Nat}(hdst:∀(i:Nat) o,ops[i]?=some o->cBv np o=true){k:List It}{r:dens s}{id n:Nat}{st:St}{a:Act}(hr:runF E n s (.ops ops ops.toList::k) st=some r)(hC:∀m,m<n->bJu P E (bHe E (runF E m)))(hS:Rel b0 β st w a.tmps):
  (Code.region id ops false).wp P (bPq E np b0 β st w a s k n r) a w:=by
 refine wp_region ?_
 have:=ops_sound hA hdst ops.toList 0 n β st a w β st w a n (by simp) hr (Nat.le_refl _) hC hS (fun b hb=>.inl hb) (Same.refl _ _) rfl (Kept.refl _ _)
 rwa [Array.length_toList,<-List.range_eq_range']at this
end
end
section
section
variable {b0:Nat->Prop} {β:bB5} {ob:Obs} {w:World}
def swapL(l:List (Nat×Nat)):List (Nat×Nat):=l.map fun p=>(p.2,p.1)
theorem lookN_none{α:Type}:∀{l:List (Nat×α)} {k:Nat},k∉l.map (·.1)->bBc l k=none
 |[],_,_=>rfl
 |(i,x)::r,k,h=>by
  simp only[List.map_cons,List.mem_cons,not_or]at h
  rw[bC2,if_neg (Ne.symm h.1)]
  exact lookN_none h.2
theorem bSm{α:Type}:∀{l:List (Nat×α)} {k:Nat} {x:α},(l.map (·.1)).Nodup->(k,x)∈l->bBc l k=some x
 |(i,y)::r,k,x,hn,h=>by
  rw[List.map_cons,List.nodup_cons]at hn
  rw[bC2]
  rcases List.mem_cons.1 h with h|h
  .cases h;simp
  .have:i≠k:=fun e=>by subst e;exact hn.1 (List.mem_map.2 ⟨_,h,rfl⟩)
   rw[if_neg this]
   exact bSm hn.2 h
def renO(ks:List (Nat×Nat)):Ob->Ob
 |.box cs=>.box (cs.map (cGt ks))
 |o=>o
theorem bRe(ks:List (Nat×Nat)):∀{l:List (Nat×Nat)} {j:Nat},j∉l.map (·.2)->bBc (bSi ob ks l) j=none
 |[],_,_=>rfl
 |(k,i)::r,j,h=>by
  simp only[List.map_cons,List.mem_cons,not_or]at h
  unfold bSi
  split
  .rw[bC2,if_neg (Ne.symm h.1)];exact bRe ks h.2
  .rw[bC2,if_neg (Ne.symm h.1)];exact bRe ks h.2
  .exact bRe ks h.2
theorem bRf(ks:List (Nat×Nat)):∀{l:List (Nat×Nat)},(l.map (·.2)).Nodup->∀{k j:Nat},(k,j)∈l->bBc (bSi ob ks l) j=(bBc ob k).map (renO ks)
 |(k',i)::r,hn,k,j,h=>by
  rw[List.map_cons,List.nodup_cons]at hn
  rcases List.mem_cons.1 h with h|h
  .cases h
   unfold bSi
   split
   .rename_i cs hcs;rw[bC2,if_pos rfl,hcs];rfl
   .rename_i o hnb ho
    rw[bC2,if_pos rfl,ho]
    cases o with
    |row τ l=>rfl
    |box cs=>exact absurd rfl (hnb cs)
   .rename_i ho;rw[ho,bRe ks hn.1];rfl
  .have hne:i≠j:=fun e=>by subst e;exact hn.1 (List.mem_map.2 ⟨_,h,rfl⟩)
   unfold bSi
   split
   .rw[bC2,if_neg hne];exact bRf ks hn.2 h
   .rw[bC2,if_neg hne];exact bRf ks hn.2 h
   .exact bRf ks hn.2 h
theorem bTh(ks:List (Nat×Nat)){l:List (Nat×Nat)}(hn:(l.map (·.2)).Nodup){j:Nat}{x:Ob}(h:bBc (bSi ob ks l) j=some x):∃k y,(k,j)∈l/\bBc ob k=some y/\x=renO ks y:=by
 by_cases hj:j∈l.map (·.2)
 .obtain⟨⟨k,j'⟩,hm,he⟩:=List.mem_map.1 hj
  simp only at he
  subst he
  rw[bRf ks hn hm,Option.map_eq_some_iff]at h
  obtain⟨y,h1,h2⟩:=h
  exact⟨k,y,hm,h1,h2.symm⟩
 .rw[bRe ks hj]at h;cases h
theorem ren_tame(ks:List (Nat×Nat)):Tame (ren1 ks):=by
 intro a ha
 cases a<;>first
  |exact .inl rfl
  |(simp only[ren1];split<;>exact .inl rfl)
  |(simp[bQy]at ha;done)
theorem cDc(live:List Nat):∀(l:List AV) (n i:Nat),(cBt live l n).getD i .any=l.getD i .any\/(cBt live l n).getD i .any = .any
 |[],n,i=>.inl rfl
 |v::r,n,0=>by
  simp only[cBt]
  cases live.any (Nat.beq n) with
  |true=>exact .inl rfl
  |false=>exact .inr rfl
 |v::r,n,i+1=>by
  have:=cDc live r (n+1) i
  simpa[cBt]using this
theorem keepL_len(live:List Nat):∀(l:List AV) (n:Nat),(cBt live l n).length=l.length
 |[],n=>rfl
 |v::r,n=>by simp[cBt,keepL_len live r (n+1)]
theorem renameK{sl:List AV}{tmps:Array Value}(h:SR b0 β ob w sl tmps F0)(ks:List (Nat×Nat))(h1:(ks.map (·.1)).Nodup)(h2:(ks.map (·.2)).Nodup){sl':List AV}(hlen:sl'.length=sl.length)(hsl:∀i,sl'.getD i .any=sl.getD i .any\/sl'.getD i .any = .any):
  ∃β',SR b0 β' (bSi ob ks ks) w (sl'.map (cGt ks)) tmps F0/\(∀b,Own β' (bSi ob ks ks) b->Own β ob b):=by
 let ρ:Nat->Nat:=fun j=>(bBc (swapL ks) j).getD 0
 have hsw:((swapL ks).map (·.1)).Nodup:=by unfold swapL;rw[List.map_map];exact h2
 have hρ:∀{k j},(k,j)∈ks->ρ j=k:=by
  intro k j hm
  have:bBc (swapL ks) j=some k:=bSm hsw (List.mem_map.2 ⟨(k,j),hm,rfl⟩)
  simp[ρ,this]
 refine⟨fun j=>β (ρ j),h.regroup (g:=ren1 ks) ρ (fun j τ l hj=>?_) (fun j cs hj=>?_) (fun j1 j2 x1 x2 e1 e2 he=>?_) (fun b hb=>.inl hb) (fun b hb hb'=>?_) (fun hav a v ha=>?_) (by simpa using hlen) (fun i=>?_)⟩
 .obtain⟨k,y,hm,hy,hx⟩:=bTh ks h2 hj
  rw[hρ hm]
  cases y with
  |row σ m=>cases hx;exact⟨hy,rfl⟩
  |box cs=>cases hx
 .obtain⟨k,y,hm,hy,hx⟩:=bTh ks h2 hj
  rw[hρ hm]
  cases y with
  |row σ m=>cases hx
  |box cs0=>cases hx;exact⟨cs0,hy,rfl,rfl⟩
 .obtain⟨k1,_,m1,_,_⟩:=bTh ks h2 e1
  obtain⟨k2,_,m2,_,_⟩:=bTh ks h2 e2
  rw[hρ m1,hρ m2]at he
  subst he
  have g1:=bSm h1 m1
  have g2:=bSm h1 m2
  rw[g1]at g2
  exact Option.some.inj g2
 .obtain⟨j,x,o,c,hj,hbj⟩:=hb
  obtain⟨k,y,hm,hy,_⟩:=bTh ks h2 hj
  simp only[hρ hm]at hbj
  exact(h.obs.lt b ⟨k,y,o,c,hy,hbj⟩).2 hb'
 .have keep:VR0 β ob w (Av b0 (fun j=>β (ρ j)) (bSi ob ks ks) F0) a v []:=bHw (bad0:=fun _=>False) (Same.refl _ w) (fun _ _ x=>x.elim) hav (fun _ _ x=>x) ha
  have at_:∀{k j:Nat},bBc ks k=some j->bBc (bSi ob ks ks) j=(bBc ob k).map (renO ks)/\ρ j=k:=by
   intro k j hk
   have hm:=bN9 hk
   exact⟨bRf ks h2 hm,hρ hm⟩
  cases a with
  |ow k=>
   simp only[ren1]
   split
   .rename_i j hk
    obtain⟨g1,g2⟩:=at_ hk
    obtain⟨e,τ,l,hl,hs⟩:=keep
    exact⟨e,τ,l,by rw[g1,hl];rfl,hs.ext (by rw[g2])⟩
   .rfl
  |own k off len=>
   simp only[ren1]
   split
   .rename_i j hk
    obtain⟨g1,g2⟩:=at_ hk
    obtain⟨e,τ,l,hl,hol,hs⟩:=keep
    exact⟨e,τ,l,by rw[g1,hl];rfl,hol,hs.ext (by rw[g2])⟩
   .rfl
  |ptr k off=>
   simp only[ren1]
   split
   .rename_i j hk
    obtain⟨g1,g2⟩:=at_ hk
    obtain⟨e,b,c,cs,hb,hl,hv⟩:=keep
    exact⟨e,b,c,_,by simp only[g2];exact hb,by rw[g1,hl];rfl,hv⟩
   .rfl
  |ap k n=>
   simp only[ren1]
   split
   .rename_i j hk
    obtain⟨g1,g2⟩:=at_ hk
    obtain⟨e,τ,l,b,c,hl,hn,hb,hv⟩:=keep
    exact⟨e,τ,l,b,c,by rw[g1,hl];rfl,hn,by simp only[g2];exact hb,hv⟩
   .rfl
  |rptr k i off=>
   simp only[ren1]
   split
   .rename_i j hk
    obtain⟨g1,g2⟩:=at_ hk
    obtain⟨e,τ,l,b,o,c,hl,hb,hv⟩:=keep
    exact⟨e,τ,l,b,o,c,by rw[g1,hl];rfl,by simp only[g2];exact hb,hv⟩
   .rfl
  |new τ l=>rfl
  |narr n τ l=>obtain⟨_,b,hb,_⟩:=ha;cases hb
  |agg cs=>exact ha.elim
  |tup vs=>exact ha.elim
  |fn f cs=>exact ha.elim
  |nbox cs=>exact ha.elim
  |_=>exact keep
 .have hm:(sl'.map (cGt ks)).getD i .any=cGt ks (sl'.getD i .any):=getD_map rfl
  rw[hm]
  rcases hsl i with hi|hi
  .rw[hi];exact .inl rfl
  .rw[hi];exact .inr rfl
theorem trim_sound{st:St}{tmps:Array Value}(h:Rel b0 β st w tmps)(t:Nat):∃β',Rel b0 β' (trimAt st t) w tmps/\(∀b,Own β' (trimAt st t).ob b->Own β st.ob b)/\(trimAt st t).f=st.f:=by
 have stay:∃β',Rel b0 β' st w tmps/\(∀b,Own β' st.ob b->Own β st.ob b)/\st.f=st.f:=⟨β,h,fun _ h=>h,rfl⟩
 unfold trimAt
 split
 .rename_i key len hsl
  split
  .rename_i τ l hrow
   cases hτ:τ.hasList with
   |true=>exact stay
   |false=>
    rw[cond_false]
    have hs:=h.sr.slot t
    rw[hsl]at hs
    obtain⟨_,τ',l',hl',hol,hsv⟩:=hs
    rw[hrow]at hl'
    cases hl'
    obtain⟨bs,hnew,hnd,hbs⟩:=row_own (h.sr.obs.row key τ l hrow) hol hsv
    have hbk:∀b∈bs,bFr β st.ob key b:=fun b hb=>by obtain⟨o,c,hβ⟩:=hbs b hb;exact⟨_,o,c,hrow,hβ⟩
    have hB:∀b,bFr β st.ob key b->Own β st.ob b:=fun b ⟨x,o,c,h1,h2⟩=>⟨key,x,o,c,h1,h2⟩
    obtain⟨hK,hKo⟩:=h.sr.kill key
    have hnn:cBy (st.sl.map (bXd key)):=h.nn.lift (bZt key) (bZu key)
    have hW:=hK.world' (w':=w) (bad0:=fun _=>False) (b0':=fun b=>b0 b\/b∈bs) (Same.refl _ w) (fun b _ h=>h.elim) (fun b hlt h=>by
     rcases h with h|h
     .exact .inl h
     .exact .inr (hbk b h)) (fun b hb=>by
     rcases hb with hb|hb
     .exact h.sr.b0lt b hb
     .exact(h.sr.obs.lt b (hB b (hbk b hb))).1)
    have hl:bR1 b0 β (mapB (bXd key) (delN st.ob key)) w bs:=⟨hnd,fun b hb=>⟨(h.sr.obs.lt b (hB b (hbk b hb))).1,(h.sr.obs.lt b (hB b (hbk b hb))).2,fun ho=>(hK.obs.lt b ho).2 (.inr (hbk b hb))⟩⟩
    have hv:=hnew (fun b=>b0 b\/Own β (mapB (bXd key) (delN st.ob key)) b\/b∈bs) (fun b _ hb=>by
     rcases hb with hb|hb|hb
     .exact .inl hb
     .exact .inr (.inl (hKo b hb))
     .exact .inr (.inl (hB b (hbk b hb))))
    obtain⟨β',h1,h2,h3⟩:=hW.putL (key:=keyOf t) (v:=tmps.getD t undef) (av:=.new τ (bFj l 0 len)) hl hv t
    have hset:tmps.setIfInBounds t (tmps.getD t undef)=tmps:=by
     apply Array.ext
     .simp
     .intro i h1 h2
      rw[Array.getElem_setIfInBounds]
      split
      .rename_i he;subst he;simp[Array.getD,h2]
      .rfl
    rw[hset]at h1
    refine⟨β',⟨h1,bRi hnn h2⟩,fun b hb=>?_,rfl⟩
    rcases h3 b hb with h4|h4
    .exact hKo b h4
    .exact hB b (hbk b h4)
  .exact stay
 .exact stay
theorem bYt(live:List Nat):∀(l:List Nat) {β:bB5} {st:St} {tmps:Array Value},Rel b0 β st w tmps->∃β',Rel b0 β' (cGf live st l) w tmps/\(∀b,Own β' (cGf live st l).ob b->Own β st.ob b)/\(cGf live st l).f=st.f
 |[],β,st,tmps,h=>⟨β,h,fun _ h=>h,rfl⟩
 |t::r,β,st,tmps,h=>by
  unfold cGf
  cases soleAt live st t with
  |false=>exact bYt live r h
  |true=>
   obtain⟨β1,h1,h2,h3⟩:=trim_sound h t
   obtain⟨β2,g1,g2,g3⟩:=bYt live r h1
   exact⟨β2,g1,fun b hb=>h2 b (g2 b hb),g3.trans h3⟩
theorem canon_sound{E:Env}{β0:bB5}{st:St}{tmps:Array Value}(h:Rel b0 β0 st w tmps)(key:Nat):∃β',Rel b0 β' (canon E key st) w tmps/\(∀b,Own β' (canon E key st).ob b->Own β0 st.ob b)/\(canon E key st).f=st.f:=by
 unfold canon
 split
 .exact⟨β0,h,fun _ h=>h,rfl⟩
 .rename_i live _
  have main0:∀{β:bB5} {st1:St},Rel b0 β st1 w tmps->(∀b,Own β st1.ob b->Own β0 st.ob b)->st1.f=st.f->∃β',Rel b0 β' (canon.canonK live st1) w tmps/\(∀b,Own β' (canon.canonK live st1).ob b->Own β0 st.ob b)/\(canon.canonK live st1).f=st.f:=by
   intro β st1 h1 ho hf
   unfold canon.canonK
   dsimp only
   generalize hks:cB1 _ 0=ks
   cases hc:bWz (ks.map (·.1))&&bWz (ks.map (·.2)) with
   |false=>exact⟨β,h1,ho,hf⟩
   |true=>
    simp only[Bool.and_eq_true]at hc
    obtain⟨β',g1,g2⟩:=renameK h1.sr ks (bPs hc.1) (bPs hc.2) (sl':=cBt live st1.sl 0) (keepL_len live _ 0) (cDc live st1.sl 0)
    refine⟨β',⟨g1,fun i=>?_⟩,fun b hb=>ho b (g2 b hb),hf⟩
    have hm:((cBt live st1.sl 0).map (cGt ks)).getD i .any=cGt ks ((cBt live st1.sl 0).getD i .any):=getD_map rfl
    show bFb (((cBt live st1.sl 0).map (cGt ks)).getD i .any)=false
    rw[hm]
    rcases cDc live st1.sl 0 i with hi|hi
    .rw[hi];exact(ren_tame ks).new2 (h1.nn i)
    .rw[hi];rfl
  have main:∀{st1:St},Rel b0 β0 st1 w tmps->(∀b,Own β0 st1.ob b->Own β0 st.ob b)->st1.f=st.f->∃β',Rel b0 β' (canon.canonK live (cGf live st1 live)) w tmps/\(∀b,Own β' (canon.canonK live (cGf live st1 live)).ob b->Own β0 st.ob b)/\(canon.canonK live (cGf live st1 live)).f=st.f:=by
   intro st1 h1 ho hf
   obtain⟨β1,g1,g2,g3⟩:=bYt live live h1
   exact main0 g1 (fun b hb=>ho b (g2 b hb)) (g3.trans hf)
  dsimp only
  split
  .rename_i l _
   obtain⟨g1,g2,g3⟩:=bYn l h
   exact main g1 g2 g3
  .exact main h (fun _ h=>h) rfl
end
end
section
def DrawOk(P:Program)(E:Env):Prop:=
 ∀(np:Nat) (s:List Sh) (ops:Array Oper) (m:Nat) (k:List It) (r:dens s) (id n:Nat) (st:St) (a:Act) (w:World) (b0:Nat->Prop) (β:bB5),cutOK ops m=true->(∀(i:Nat) o,ops[i]?=some o->cBv np o=true) ->
  runF E n s (.aops ops (ops.toList.take m) (ops.toList.take m) :: .ops ops (ops.toList.drop m)::k) st=some r->(∀m,m<n->bJu P E (bHe E (runF E m)))->Rel b0 β st w a.tmps ->
  (Code.region id ops true).wp P (bPq E np b0 β st w a s k n r) a w
def EachOk(P:Program)(E:Env):Prop:=
 ∀(np:Nat) (s:List Sh) (ops:Array Oper) (k:List It) (r:dens s) (id n:Nat) (st:St) (a:Act) (w:World) (b0:Nat->Prop) (β:bB5),Region.noSelect ops=true->(∀(i:Nat) o,ops[i]?=some o->cBv np o=true) ->
  explore E (bHe E (runF E n)) ops (runF E n s k) ops.size (Array.replicate ops.size false) st=some r->bJu P E (bHe E (runF E n))->Rel b0 β st w a.tmps ->
  (Code.region id ops true).wp P (bPq E np b0 β st w a s k n r) a w
inductive bYh:List It->List Item->Prop
 |nil:bYh [] []
 |code {c k k'}:bYh k k'->bYh (.code c::k) (.code c::k')
 |inLoop {c k k'}:bYh k k'->bYh (.inLoop c::k) (.inLoop c::k')
 |loopAt {c k k'}:bYh k k'->bYh (.loopAt c::k) (.code c :: .inLoop c::k')
 |inBlock {id k k'}:bYh k k'->bYh (.inBlock id::k) (.inBlock id::k')
theorem bYh.exit{id:Nat}:∀{k:List It} {k':List Item} {k2:List It},bYh k k'->bQk id k=some k2->∃k2',exitTo id k'=some k2'/\bYh k2 k2':=by
 intro k k' k2 h
 induction h with
 |nil=>intro h;simp[bQk]at h
 |code _ ih=>intro h;obtain⟨k2',h1,h2⟩:=ih (by simpa[bQk]using h);exact⟨k2',by simpa[exitTo]using h1,h2⟩
 |inLoop _ ih=>intro h;obtain⟨k2',h1,h2⟩:=ih (by simpa[bQk]using h);exact⟨k2',by simpa[exitTo]using h1,h2⟩
 |loopAt _ ih=>intro h;obtain⟨k2',h1,h2⟩:=ih (by simpa[bQk]using h);exact⟨k2',by simpa[exitTo]using h1,h2⟩
 | @inBlock i k k' hk ih=>
  intro h
  simp only[bQk]at h
  cases hb:Nat.beq i id with
  |true=>
   rw[hb]at h
   have:=Nat.eq_of_beq_eq_true hb
   subst this
   simp only[cond_true,Option.some.injEq]at h
   subst h
   exact⟨k',by simp[exitTo],hk⟩
  |false=>
   rw[hb]at h
   obtain⟨k2',h1,h2⟩:=ih h
   exact⟨k2',by simp[exitTo,bKn hb,h1],h2⟩
section
variable {b0:Nat->Prop} {β:bB5} {w:World}
def itOK(np:Nat):It->Bool
 |.code c|.inLoop c|.loopAt c=>bMz np c
 |_=>true
theorem bVp{id:Nat}:∀{k k2:List It},bQk id k=some k2->∀i∈k2,i∈k
 |[],k2,h=>by simp[bQk]at h
 |.inBlock j::k,k2,h=>by
  simp only[bQk]at h
  cases hb:Nat.beq j id with
  |true=>rw[hb]at h;simp only[cond_true,Option.some.injEq]at h;subst h;intro i hi;simp[hi]
  |false=>rw[hb]at h;intro i hi;exact List.mem_cons_of_mem _ (bVp h i hi)
 |.code c::k,k2,h=>fun i hi=>List.mem_cons_of_mem _ (bVp (by simpa[bQk]using h) i hi)
 |.inLoop c::k,k2,h=>fun i hi=>List.mem_cons_of_mem _ (bVp (by simpa[bQk]using h) i hi)
 |.loopAt c::k,k2,h=>fun i hi=>List.mem_cons_of_mem _ (bVp (by simpa[bQk]using h) i hi)
 |.ops a b::k,k2,h=>fun i hi=>List.mem_cons_of_mem _ (bVp (by simpa[bQk]using h) i hi)
 |.aops a b c::k,k2,h=>fun i hi=>List.mem_cons_of_mem _ (bVp (by simpa[bQk]using h) i hi)
def Ends(P:Program)(E:Env)(np:Nat)(b0:Nat->Prop)(β:bB5)(st:St)(w:World)(a:Act)(b:Frame)(cs:List Frame)(t:List Item)(s:List Sh)(r:dens s):Prop:=
 ∃todo a' w' st',Steps P (lone (b.at a t) cs w) (lone { b.at a' todo with mode:=.returning } cs w')/\finK E s st'=some r/\st'.f=st.f/\Kept np a a'/\Goes b0 β st st' w w' a'.tmps
theorem Ends.later{P:Program}{E:Env}{np:Nat}{st st1:St}{w1:World}{a a1:Act}{b:Frame}{cs:List Frame}{t t1:List Item}{s:List Sh}{r:dens s}{β1:bB5}(hs:Steps P (lone (b.at a t) cs w) (lone (b.at a1 t1) cs w1))(hf:st1.f=st.f)
  (hR:Rel b0 β1 st1 w1 a1.tmps) (ho:∀y,Own β1 st1.ob y->Own β st.ob y\/w.heap.size<=y) (hsm:Same (Own β st.ob) w w1) (hk:Kept np a a1) (h:Ends P E np b0 β1 st1 w1 a1 b cs t1 s r):Ends P E np b0 β st w a b cs t s r:=by
 obtain⟨todo,a',w',st',h1,h2,h3,h4,h5⟩:=h
 exact⟨todo,a',w',st',hs.trans h1,h2,h3.trans hf,hk.trans h4,Goes.trans hR ho hsm h5⟩
theorem sim{P:Program}{E:Env}(hA:bNb P E)(hD:DrawOk P E)(hX:EachOk P E){np:Nat}:∀(n:Nat),(∀m,m<n->bJu P E (bHe E (runF E m)))->∀(s:List Sh) (t:List It) (st:St) (r:dens s),runF E n s t st=some r ->
  ∀(t':List Item) (β:bB5) (a:Act) (w:World) (b:Frame) (cs:List Frame),bYh t t'->(∀i∈t,itOK np i=true)->Rel b0 β st w a.tmps->Ends P E np b0 β st w a b cs t' s r:=by
 intro n
 induction n using Nat.strongRecOn with
 |ind n ih=>
  intro hC s t st r hr t' β a w b cs ht hok hS
  cases n with
  |zero=>cases hr
  |succ n=>
   have go:∀{t1:List It} {t1':List Item} {a:Act} {w:World},runF E n s t1 st=some r->Steps P (lone (b.at a t') cs w) (lone (b.at a t1') cs w)->bYh t1 t1'->(∀i∈t1,itOK np i=true)->Rel b0 β st w a.tmps->Ends P E np b0 β st w a b cs t' s r:=by
    intro t1 t1' a w hr1 hst ht1 hok1 hS
    exact Ends.later hst rfl hS (fun y hy=>.inl hy) (Same.refl _ _) (Kept.refl _ _) (ih n (by omega) (fun m hm=>hC m (by omega)) s t1 st r hr1 t1' β a w b cs ht1 hok1 hS)
   have fin:finK E s st=some r->Steps P (lone (b.at a t') cs w) (lone { b.at a t' with mode:=.returning } cs w)->Ends P E np b0 β st w a b cs t' s r:=
    fun h1 h2=>⟨t',a,w,st,h2,h1,rfl,Kept.refl _ _,Goes.refl hS⟩
   have loopGo:∀{c:Code} {k:List It} {k':List Item},runF E n s (.loopAt c::k) (canon E (bQf c) st)=some r->bYh k k'->bMz np c=true->(∀i∈k,itOK np i=true)->step P (lone (b.at a t') cs w) = .next (lone (b.at a (.code c :: .inLoop c::k')) cs w)->Ends P E np b0 β st w a b cs t' s r:=by
    intro c k k' hr1 hk hc1 hk1 hst
    obtain⟨β1,h1,h2,h3⟩:=canon_sound (E:=E) hS (bQf c)
    exact Ends.later (.one hst) h3 h1 (fun y hy=>.inl (h2 y hy)) (Same.refl _ _) (Kept.refl _ _) (ih n (by omega) (fun m hm=>hC m (by omega)) s _ _ r hr1 _ β1 a w b cs (.loopAt hk) (fun i hi=>(List.mem_cons.1 hi).elim (fun e=>by subst e;exact hc1) (hk1 i)) h1)
   have region:∀{id:Nat} {ops:Array Oper} {dr:Bool} {k:List It} {k':List Item},bYh k k'->(∀i∈k,itOK np i=true)->t' = .code (.region id ops dr)::k'->(Code.region id ops dr).wp P (bPq E np b0 β st w a s k n r) a w->Ends P E np b0 β st w a b cs t' s r:=by
    intro id ops dr k k' hk hk1 ht' hwp
    subst ht'
    obtain⟨e,a',w',hq,harr⟩:=hwp b k' cs
    cases e with
    |normal=>
     obtain⟨st',n',hn',hr',hf',hd',hg⟩:=hq
     obtain⟨⟨β1,g1,g2⟩,g3⟩:=hg
     exact Ends.later harr hf' g1 g2 g3 hd' (ih n' (by omega) (fun m hm=>hC m (by omega)) s k st' r hr' k' β1 a' w' b cs hk hk1 g1)
    |_=>exact hq.elim
   rw[runF]at hr
   have two:∀{x y:It} {k:List It},itOK np x=true->itOK np y=true->(∀i∈k,itOK np i=true)->∀i∈x::y::k,itOK np i=true:=by
    intro x y k h1 h2 h3 i hi
    rcases List.mem_cons.1 hi with rfl|hi
    .exact h1
    .rcases List.mem_cons.1 hi with rfl|hi
     .exact h2
     .exact h3 i hi
   have one:∀{x:It} {k:List It},itOK np x=true->(∀i∈k,itOK np i=true)->∀i∈x::k,itOK np i=true:=by
    intro x k h1 h3 i hi
    rcases List.mem_cons.1 hi with rfl|hi
    .exact h1
    .exact h3 i hi
   cases ht with
   |nil=>exact fin hr (.one step_end)
   | @loopAt c k k' hk=>
    have hc:=hok (.loopAt c) (by simp)
    exact go (t1:=.code c :: .inLoop c::k) hr (.refl _ _) (.code (.inLoop hk)) (two hc hc fun i hi=>hok i (by simp[hi])) hS
   | @inBlock id k k' hk=>exact go (t1:=k) hr (.one step_inBlock) hk (fun i hi=>hok i (by simp[hi])) hS
   | @inLoop c k k' hk=>exact loopGo hr hk (hok (.inLoop c) (by simp)) (fun i hi=>hok i (by simp[hi])) step_inLoop
   | @code c k k' hk=>
    have hc:=hok (.code c) (by simp)
    have hkk:∀i∈k,itOK np i=true:=fun i hi=>hok i (by simp[hi])
    cases c with
    |ret=>exact fin hr (.one step_ret)
    |skip=>exact go (t1:=k) hr (.one step_skip) hk hkk hS
    |seq x y=>
     simp only[itOK,bMz,Bool.and_eq_true]at hc
     exact go (t1:=.code x :: .code y::k) hr (.one step_seq) (.code (.code hk)) (two hc.1 hc.2 hkk) hS
    |block id c=>exact go (t1:=.code c :: .inBlock id::k) hr (.one step_block) (.code (.inBlock hk)) (two (by simpa[itOK,bMz]using hc) rfl hkk) hS
    |loop c=>exact loopGo hr hk (by simpa[itOK,bMz]using hc) hkk step_loop
    |cond c x y=>
     simp only[itOK,bMz,Bool.and_eq_true]at hc
     obtain⟨v,hv,hr1⟩:=cA6 (show cFa (bCm st.sl c) (fun b=>bif b then runF E n s (.code x::k) st else runF E n s (.code y::k) st)=some r from hr)
     have hcv:=bKt hS c
     rw[hv]at hcv
     obtain⟨hcv,_⟩:=bK2 hcv
     cases v with
     |true=>exact go (t1:=.code x::k) hr1 (.one (step_cond hcv)) (.code hk) (one hc.1 hkk) hS
     |false=>exact go (t1:=.code y::k) hr1 (.one (step_cond hcv)) (.code hk) (one hc.2 hkk) hS
    |exit id=>
     simp only[bYw]at hr
     split at hr
     .rename_i k2 hk2
      obtain⟨k2',h1,h2⟩:=hk.exit hk2
      exact go (t1:=k2) hr (.one (step_exit h1)) h2 (fun i hi=>hkk i (bVp hk2 i hi)) hS
     .cases hr
    |region id ops dr=>
     have hdst:∀(i:Nat) o,ops[i]?=some o->cBv np o=true:=fun i o ho=>by
      simp only[itOK,bMz]at hc
      exact List.all_eq_true.1 hc o (by simpa using Array.mem_of_getElem? ho)
     simp only[bYw]at hr
     cases dr with
     |false=>exact region hk hkk rfl (region_sound hA hdst hr (fun m hm=>hC m (by omega)) hS)
     |true=>
      simp only[cond_true]at hr
      split at hr
      .rename_i m hm
       cases hb:Nat.ble 1000 m with
       |true=>
        rw[hb]at hr
        simp only[cond_true]at hr
        obtain⟨hns,hr1⟩:=bCj hr
        exact region hk hkk rfl (hX np s ops k r id n st a w b0 β hns hdst hr1 (hC n (by omega)) hS)
       |false=>
       rw[hb]at hr
       simp only[cond_false]at hr
       obtain⟨hcut,hr1⟩:=bCj hr
       exact region hk hkk rfl (hD np s ops m k r id n st a w b0 β hcut hdst hr1 (fun m hm=>hC m (by omega)) hS)
      .cases hr
    |_=>cases hr
end
end
section
section
variable {E:Env} {C:bCg} {ob:Obs} {R:Type}
theorem pureK_congr{ρ ρ':Operand->AV}(o:Oper)(h:∀x∈o.op.operands,ρ x=ρ' x)(k:AV->Option R):bH7 E C ob ρ o k=bH7 E C ob ρ' o k:=by
 obtain⟨dst,op,type,pos,after,guard⟩:=o
 have pairs:∀ps:Array (Nat×Operand),(∀x∈ps.toList.map (·.2),ρ x=ρ' x) ->
   (ps.toList.map fun p=>(p.1,ρ p.2))=(ps.toList.map fun p=>(p.1,ρ' p.2)):=fun ps hp=>
  List.map_congr_left fun p hm=>by simp only[hp p.2 (List.mem_map.2 ⟨p,hm,rfl⟩)]
 cases op<;>simp only[Op.operands]at h<;>simp only[bH7]
 case build t ps=>rw[pairs ps fun x hx=>h x (by simpa using hx)]
 case buildSlice t n ps=>rw[pairs ps fun x hx=>h x (by simpa using hx)]
 case makeFunc fn first captured=>
  have:captured.toList.map ρ=captured.toList.map ρ':=List.map_congr_left fun x hx=>h x (by simp at hx;simp[hx])
  cases fn with
  |func f=>simp only[this]
  |_=>rfl
 case call c=>
  obtain⟨callee,args,ts⟩:=c
  have hargs:args.toList.map ρ=args.toList.map ρ':=List.map_congr_left fun x hx=>h x (by simp at hx;simp[Call.operands,hx])
  simp only[hargs]
  cases callee with
  |value f=>have hf:ρ f=ρ' f:=h f (by simp[Call.operands]);simp only[hf]
  |_=>rfl
 case slice t x lo hi mx=>cases lo<;>cases hi<;>cases mx<;>simp_all
 all_goals (first|rfl|(simp_all;done))
def cBs(ops:Array Oper)(sl:List AV)(o:Oper):Option Bool:=
 match o.guard with
 |none=>some true
 |some (j,w)=>match(ops[j]?).bind (·.dst) with
  |some t=>match sl.getD t .any with
   |.d .bool b=>some (bif b then w else !w)
   |.non=>some false
   |_=>none
  |none=>none
theorem wantK_B{ops:Array Oper}{sl:List AV}{o:Oper}{k:Bool->List AV->Option R}{r:R}(h:bZc ops sl o k=some r):∃b,cBs ops sl o=some b/\k b sl=some r:=by
 unfold bZc at h
 unfold cBs
 split at h
 .rename_i hg;exact⟨true,by rw[hg],h⟩
 .rename_i j wt hg
  split at h
  .rename_i t ht
   split at h
   .rename_i b hb
    have hlt:t<sl.length:=slot_lt (by rw[hb];simp)
    refine⟨bif b then wt else !wt,by rw[hg];simp only[ht,hb],?_⟩
    cases b with
    |true=>simp only[cond_true]at h ⊢;rw[bZf hb hlt]at h;exact h
    |false=>simp only[cond_false]at h ⊢;rw[bZf hb hlt]at h;exact h
   .rename_i hb
    exact⟨false,by rw[hg];simp only[ht,hb],h⟩
   .cases h
  .cases h
theorem wantB_congr{ops:Array Oper}{sl sl':List AV}{o:Oper}{b:Bool}(h:cBs ops sl o=some b)
  (hs:∀g w t,o.guard=some (g,w)->(ops[g]?).bind (·.dst)=some t->bFb (sl.getD t .any)=false->sl'.getD t .any=sl.getD t .any):cBs ops sl' o=some b:=by
 unfold cBs at h ⊢
 split at h
 .exact h
 .rename_i j wt hg
  split at h
  .rename_i t ht
   try simp only[ht]
   split at h
   .rename_i c hb
    have:=hs j wt t hg ht (by rw[hb];rfl)
    rw[this,hb];exact h
   .rename_i hb
    have:=hs j wt t hg ht (by rw[hb];rfl)
    rw[this,hb];exact h
   .cases h
  .cases h
theorem wantB_sound{b0:Nat->Prop}{β:bB5}{w:World}{f:Nat->List Nat}{sl:List AV}{tmps:Array Value}(hS:SR b0 β ob w sl tmps f){ops:Array Oper}{o:Oper}{b:Bool}(h:cBs ops sl o=some b):
  Region.wanted o (yielded ops tmps)=b:=by
 have hk:bZc ops sl o (fun b _=>some b)=some b:=by
  unfold cBs at h
  unfold bZc
  split at h
  .rename_i hg;rw[hg];exact h
  .rename_i j wt hg
   rw[hg]
   split at h
   .rename_i t ht
    simp only[ht]
    split at h
    .rename_i c hb;rw[hb];cases c<;>exact h
    .rename_i hb;rw[hb];exact h
    .cases h
   .cases h
 have:=cCb hS hk
 exact Option.some.inj this
theorem lor_fold{α:Type}(p:α->Bool)(g:α->Nat)(i:Nat):∀(l:List α) (s:Nat),Nat.testBit (l.foldl (fun s e=>bif p e then Nat.lor s (g e) else s) s) i=(Nat.testBit s i||l.any fun e=>p e&&Nat.testBit (g e) i)
 |[],s=>by simp
 |e::l,s=>by
  rw[List.foldl_cons,lor_fold p g i l]
  cases hp:p e with
  |true=>simp only[cond_true,List.any_cons,hp,Bool.true_and];rw[show Nat.lor s (g e)=s|||g e from rfl,Nat.testBit_or,Bool.or_assoc]
  |false=>simp only[cond_false,List.any_cons,hp,Bool.false_and,Bool.false_or]
def bL0(acc:List Nat)(o:Oper):List Nat:=
 acc++[o.after.foldl (fun s e=>bif Region.binds .any e then Nat.lor s (Nat.lor (2^e.on) (acc.getD e.on 0)) else s) 0]
theorem bef_len:∀(l:List Oper) (acc:List Nat),(l.foldl bL0 acc).length=acc.length+l.length
 |[],acc=>rfl
 |o::l,acc=>by rw[List.foldl_cons,bef_len l];simp[bL0];omega
theorem cHm:∀(l:List Oper) (acc:List Nat) (j:Nat),j<acc.length->(l.foldl bL0 acc).getD j 0=acc.getD j 0
 |[],acc,j,h=>rfl
 |o::l,acc,j,h=>by
  rw[List.foldl_cons,cHm l _ j (by simp[bL0];omega)]
  simp only[bL0,List.getD]
  rw[List.getElem?_append_left h]
theorem befores_eq(l:List Oper):bMn l=l.foldl bL0 []:=rfl
theorem befores_at{l:List Oper}{j:Nat}{o:Oper}(hj:l[j]?=some o)(he:∀e∈o.after,Region.binds .any e=true->e.on<j){i:Nat}(h:Nat.testBit ((bMn l).getD j 0) i=true):
  ∃e∈o.after,Region.binds .any e=true/\(i=e.on\/Nat.testBit ((bMn l).getD e.on 0) i=true):=by
 have hlt:j<l.length:=(List.getElem?_eq_some_iff.1 hj).1
 have hsp:l=l.take j++o::l.drop (j+1):=by
  have:l.drop j=o::l.drop (j+1):=by rw[List.drop_eq_getElem_cons hlt];congr 1;exact(List.getElem?_eq_some_iff.1 hj).2
  rw[<-this,List.take_append_drop]
 have hfold:bMn l=(l.drop (j+1)).foldl bL0 (bL0 ((l.take j).foldl bL0 []) o):=by
  rw[befores_eq]
  conv=>lhs;rw[hsp]
  rw[List.foldl_append,List.foldl_cons]
 have hpre:=bef_len (l.take j) []
 have hpl:((l.take j).foldl bL0 []).length=j:=by rw[hpre];simp;omega
 have hget:(bMn l).getD j 0=o.after.foldl (fun s e=>bif Region.binds .any e then Nat.lor s (Nat.lor (2^e.on) (((l.take j).foldl bL0 []).getD e.on 0)) else s) 0:=by
  rw[hfold,cHm _ _ _ (by simp[bL0,hpl])]
  simp only[bL0,List.getD]
  rw[List.getElem?_append_right (by omega)]
  simp[hpl]
 rw[hget,<-Array.foldl_toList,lor_fold]at h
 simp only[Nat.zero_testBit,Bool.false_or,List.any_eq_true,Bool.and_eq_true]at h
 obtain⟨e,hm,hb,ht⟩:=h
 have hm':e∈o.after:=Array.mem_toList_iff.1 hm
 refine⟨e,hm',hb,?_⟩
 rw[show Nat.lor (2^e.on) (((l.take j).foldl bL0 []).getD e.on 0)=2^e.on|||((l.take j).foldl bL0 []).getD e.on 0 from rfl,Nat.testBit_or,Bool.or_eq_true]at ht
 rcases ht with ht|ht
 .rw[Nat.testBit_two_pow]at ht
  left;have:=of_decide_eq_true ht;exact this.symm
 .right
  rw[hfold,cHm _ _ _ (by simp[bL0,hpl];have:=he e hm' hb;omega)]
  simp only[bL0,List.getD]at ht ⊢
  rw[List.getElem?_append_left (by rw[hpl];exact he e hm' hb)]
  exact ht
theorem bMf{l:List Oper}{S:Nat->Prop}(hE:∀j o,l[j]?=some o->∀e∈o.after,Region.binds .any e=true->e.on<j)
  (hS:∀j o,l[j]?=some o->S j->∀e∈o.after,Region.binds .any e=true->S e.on) :
  ∀(j i:Nat) (o:Oper),l[j]?=some o->(∀e∈o.after,Region.binds .any e=true->S e.on)->Nat.testBit ((bMn l).getD j 0) i=true->S i:=by
 intro j
 induction j using Nat.strongRecOn with
 |ind j ih=>
  intro i o hj hb ht
  obtain⟨e,he,hbi,h⟩:=befores_at hj (hE j o hj) ht
  rcases h with rfl|h
  .exact hb e he hbi
  .have hlt:=hE j o hj e he hbi
   have hl:e.on<l.length:=Nat.lt_trans hlt (List.getElem?_eq_some_iff.1 hj).1
   exact ih e.on hlt i _ (List.getElem?_eq_getElem hl) (hS _ _ (List.getElem?_eq_getElem hl) (hb e he hbi)) h
end
end
section
def putL(sl:List AV)(p:Oper×AV):List AV:=
 match p.1.dst with
 |some t=>setL sl t p.2
 |none=>sl
def bQ7(L:List Oper)(avs:List AV)(sl0:List AV)(j:Nat):List AV:=((L.zip avs).take j).foldl putL sl0
def wr(L:List Oper)(t:Nat):Option Nat:=L.findIdx? fun o=>decide (o.dst=some t)
def bDh(L:List Oper)(S:Nat->Bool)(i:Nat):List Oper:=(L.zipIdx.filter fun p=>decide (i<p.2)&&S p.2).map (·.1)
def clrN(l:List Oper)(t:Nat)(v:AV):AV:=bif bFb v then clr l t v else v
def semV(L:List Oper)(avs:List AV)(sl0:List AV)(S:Nat->Bool)(t:Nat):AV:=
 match wr L t with
 |some i=>bif S i then clrN (bDh L S i) t (avs.getD i .any) else sl0.getD t .any
 |none=>sl0.getD t .any
def semL(L:List Oper)(avs:List AV)(sl0:List AV)(S:Nat->Bool):List AV:=(List.range sl0.length).map (semV L avs sl0 S)
def Uniq(L:List Oper):Prop:=∀(i j:Nat) (oi oj:Oper) (t:Nat),L[i]?=some oi->L[j]?=some oj->oi.dst=some t->oj.dst=some t->i=j
theorem uniq_of:∀{L:List Oper},(L.filterMap (·.dst)).Nodup->Uniq L
 |[],_=>fun i j oi oj t h=>by simp at h
 |o::L,hn=>by
  intro i j oi oj t hi hj h1 h2
  have hn':(L.filterMap (·.dst)).Nodup:=by
   rw[List.filterMap_cons]at hn
   split at hn
   .exact hn
   .exact(List.nodup_cons.1 hn).2
  have cross:∀(k:Nat) (ok:Oper),L[k]?=some ok->o.dst=some t->ok.dst=some t->False:=fun k ok hk h1 h2=>by
   rw[List.filterMap_cons,h1]at hn
   exact(List.nodup_cons.1 hn).1 (List.mem_filterMap.2 ⟨ok,List.mem_of_getElem? hk,h2⟩)
  cases i with
  |zero=>
   cases j with
   |zero=>rfl
   |succ j=>
    simp only[List.getElem?_cons_zero,Option.some.injEq]at hi
    subst hi
    exact(cross j oj (by simpa using hj) h1 h2).elim
  |succ i=>
   cases j with
   |zero=>
    simp only[List.getElem?_cons_zero,Option.some.injEq]at hj
    subst hj
    exact(cross i oi (by simpa using hi) h2 h1).elim
   |succ j=>rw[uniq_of hn' i j oi oj t (by simpa using hi) (by simpa using hj) h1 h2]
theorem Uniq.take{L:List Oper}(h:Uniq L)(m:Nat):Uniq (L.take m):=fun i j oi oj t hi hj h1 h2=>by
 rw[List.getElem?_take]at hi hj
 split at hi
 .split at hj
  .exact h i j oi oj t hi hj h1 h2
  .cases hj
 .cases hi
theorem wr_some{L:List Oper}(hu:Uniq L){i t:Nat}{o:Oper}(hi:L[i]?=some o)(hd:o.dst=some t):wr L t=some i:=by
 obtain⟨hlt,hg⟩:=List.getElem?_eq_some_iff.1 hi
 unfold wr
 rw[List.findIdx?_eq_some_iff_getElem]
 refine⟨hlt,by rw[hg];simp[hd],fun j hj hp=>?_⟩
 have hjl:j<L.length:=by omega
 have:=hu j i _ o t (List.getElem?_eq_getElem hjl) hi (by simpa using hp) hd
 omega
theorem bV1{L:List Oper}{i t:Nat}(h:wr L t=some i):∃o,L[i]?=some o/\o.dst=some t:=by
 unfold wr at h
 rw[List.findIdx?_eq_some_iff_getElem]at h
 obtain⟨hlt,hp,_⟩:=h
 exact⟨_,List.getElem?_eq_getElem hlt,by simpa using hp⟩
theorem seqSl_succ{L:List Oper}{avs sl0:List AV}(hl:L.length=avs.length){j:Nat}{o:Oper}{v:AV}(ho:L[j]?=some o)(hv:avs[j]?=some v):bQ7 L avs sl0 (j+1)=putL (bQ7 L avs sl0 j) (o,v):=by
 unfold bQ7
 have hz:(L.zip avs)[j]?=some (o,v):=by
  rw[List.getElem?_zip_eq_some];exact⟨ho,hv⟩
 rw[List.take_add_one,hz]
 simp
theorem bWg{L:List Oper}{avs sl0:List AV}(j:Nat):(bQ7 L avs sl0 j).length=sl0.length:=by
 unfold bQ7
 generalize (L.zip avs).take j=z
 induction z generalizing sl0 with
 |nil=>rfl
 |cons p z ih=>
  rw[List.foldl_cons,ih]
  unfold putL
  split
  .exact bM7
  .rfl
theorem bZg{L:List Oper}{avs sl0:List AV}(hu:Uniq L)(hl:L.length=avs.length)(t:Nat)(ht:t<sl0.length):∀(j:Nat),j<=L.length ->
  (bQ7 L avs sl0 j).getD t .any=match wr L t with
   |some i=>if i<j then avs.getD i .any else sl0.getD t .any
   |none=>sl0.getD t .any
 |0,_=>by
  have:bQ7 L avs sl0 0=sl0:=rfl
  rw[this]
  split
  .rw[if_neg (by omega)]
  .rfl
 |j+1,hj=>by
  have hlt:j<L.length:=by omega
  have ho:=List.getElem?_eq_getElem hlt
  have hv:avs[j]?=some (avs[j]'(by omega)):=List.getElem?_eq_getElem (by omega)
  rw[seqSl_succ hl ho hv]
  have ih:=bZg hu hl t ht j (by omega)
  unfold putL
  split
  .rename_i s hs
   simp only at hs
   rw[bMw,bWg]
   by_cases hts:t=s
   .subst hts
    rw[if_pos ⟨rfl,ht⟩,wr_some hu ho hs]
    simp only[Nat.lt_add_one,if_true,List.getD,hv,Option.getD_some]
   .rw[if_neg (fun h=>hts h.1),ih]
    cases hw:wr L t with
    |none=>rfl
    |some i=>
     obtain⟨oi,h1,h2⟩:=bV1 hw
     have hne:i≠j:=fun e=>by
      subst e
      rw[ho]at h1
      cases h1
      rw[hs]at h2
      exact hts (Option.some.inj h2).symm
     simp only
     by_cases h:i<j
     .rw[if_pos h,if_pos (by omega)]
     .rw[if_neg h,if_neg (by omega)]
  .rename_i hs
   simp only at hs
   rw[ih]
   cases hw:wr L t with
   |none=>rfl
   |some i=>
    obtain⟨oi,h1,h2⟩:=bV1 hw
    have hne:i≠j:=fun e=>by
     subst e
     rw[ho]at h1
     cases h1
     rw[hs]at h2;cases h2
    simp only
    by_cases h:i<j
    .rw[if_pos h,if_pos (by omega)]
    .rw[if_neg h,if_neg (by omega)]
theorem bKf{L:List Oper}{avs sl0:List AV}{S:Nat->Bool}(t:Nat):(semL L avs sl0 S).getD t .any=if t<sl0.length then semV L avs sl0 S t else .any:=by
 unfold semL
 split
 .rename_i h;simp[List.getD,h]
 .rename_i h;simp[List.getD,h]
theorem bMa{L:List Oper}{avs sl0:List AV}{S:Nat->Bool}:(semL L avs sl0 S).length=sl0.length:=by simp[semL]
theorem bW5{L:List Oper}{S:Nat->Bool}{i:Nat}{o:Oper}:o∈bDh L S i↔∃j,L[j]?=some o/\i<j/\S j=true:=by
 unfold bDh
 simp only[List.mem_map,List.mem_filter,Bool.and_eq_true,decide_eq_true_eq,Prod.exists,exists_and_right,exists_eq_right]
 constructor
 .rintro⟨j,h1,h2,h3⟩
  exact⟨j,by rw[List.mem_zipIdx_iff_getElem?]at h1;exact h1,h2,h3⟩
 .rintro⟨j,h1,h2,h3⟩
  exact⟨j,by rw[List.mem_zipIdx_iff_getElem?];exact h1,h2,h3⟩
theorem bPk{l:List Oper}{t:Nat}:∀{vs:List AV} {i q:Nat},(clrI l t vs i)[q]?=(vs[q]?).map fun v=>bif l.any (fun o=>bSd o t (i+q)) then clr1 v else v
 |[],i,q=>by simp[clrI]
 |v::vs,i,0=>by simp[clrI]
 |v::vs,i,q+1=>by
  simp only[clrI,List.getElem?_cons_succ]
  rw[bPk]
  rw[show i+1+q=i+(q+1) from by omega]
theorem cAb{l:List Oper}{t:Nat}:∀{vs:List AV} {i:Nat},(clrI l t vs i).length=vs.length
 |[],i=>rfl
 |v::vs,i=>by simp[clrI,cAb]
def bK3(o:Oper)(t:Nat):Bool:=(bFv o).any (Nat.beq t)
theorem cB0{o:Oper}{t:Nat}(h:bLg o t=true):bK3 o t=true:=by
 unfold bLg at h
 split at h
 .cases h
 .exact h
theorem cGu{o:Oper}{t i:Nat}(h:bSd o t i=true):bK3 o t=true:=by
 unfold bSd at h
 split at h
 .rename_i x j ho
  simp only[Bool.and_eq_true]at h
  have:=Nat.eq_of_beq_eq_true h.1
  subst this
  unfold bK3 bFv
  rw[ho]
  simp[Op.operands,Nat.beq_refl]
 .cases h
theorem readsS_of{o:Oper}{t:Nat}(h:t∈bFv o):bK3 o t=true:=by
 unfold bK3
 rw[List.any_eq_true]
 exact⟨t,h,Nat.beq_refl t⟩
theorem bTd{o:Oper}{t:Nat}(h:bK3 o t=true):t∈bFv o:=by
 unfold bK3 at h
 rw[List.any_eq_true]at h
 obtain⟨x,hx,hb⟩:=h
 rw[Nat.eq_of_beq_eq_true hb];exact hx
theorem clr_none{l:List Oper}{t:Nat}{v:AV}(h:∀o∈l,bK3 o t=false):clr l t v=v:=by
 have hN:(l.any fun o=>bLg o t)=false:=by
  rw[List.any_eq_false]
  intro o ho hr
  have:=cB0 hr
  rw[h o ho]at this;cases this
 unfold clr
 split
 .rename_i vs
  rw[hN]
  simp only[cond_false,AV.tup.injEq]
  apply List.ext_getElem?
  intro q
  rw[bPk]
  have hX:(l.any fun o=>bSd o t (0+q))=false:=by
   rw[List.any_eq_false]
   intro o ho hr
   have:=cGu hr
   rw[h o ho]at this;cases this
  rw[hX]
  simp
 .rw[hN];rfl
theorem clrN_none{l:List Oper}{t:Nat}{v:AV}(h:∀o∈l,bK3 o t=false):clrN l t v=v:=by
 unfold clrN
 cases bFb v with
 |true=>exact clr_none h
 |false=>rfl
theorem sole_two{L:List Oper}{t:Nat}(h:bX5 L t=true){i j:Nat}{oi oj:Oper}(hi:L[i]?=some oi)(hj:L[j]?=some oj)(hne:i≠j)(hri:bK3 oi t=true)(hrj:bK3 oj t=true):
  ∃x p y q,oi.op = .extract (.tmp x) p/\oj.op = .extract (.tmp y) q/\p≠q:=by
 unfold bX5 at h
 have key:∀(L:List Oper) (i j:Nat),i<j->L[i]?=some oi->L[j]?=some oj->∃l1 l2,(L.filter fun o=>(bFv o).any (Nat.beq t))=l1++oi::l2/\oj∈l2:=by
  intro L i j hij hi hj
  obtain⟨hlt,hg⟩:=List.getElem?_eq_some_iff.1 hi
  have hsp:L=L.take i++oi::L.drop (i+1):=by
   have:L.drop i=oi::L.drop (i+1):=by rw[List.drop_eq_getElem_cons hlt,hg]
   rw[<-this,List.take_append_drop]
  refine⟨(L.take i).filter fun o=>(bFv o).any (Nat.beq t),(L.drop (i+1)).filter fun o=>(bFv o).any (Nat.beq t),?_,?_⟩
  .conv=>lhs;rw[hsp]
   rw[List.filter_append,List.filter_cons,if_pos (show((bFv oi).any (Nat.beq t))=true from hri)]
  .rw[List.mem_filter]
   refine⟨?_,hrj⟩
   have:(L.drop (i+1))[j-(i+1)]?=some oj:=by rw[List.getElem?_drop,show i+1+(j-(i+1))=j from by omega];exact hj
   exact List.mem_of_getElem? this
 have fin:∀{oa ob:Oper} {l1 l2:List Oper},(L.filter fun o=>(bFv o).any (Nat.beq t))=l1++oa::l2->ob∈l2->∃x p y q,oa.op = .extract (.tmp x) p/\ob.op = .extract (.tmp y) q/\p≠q:=by
  intro oa ob l1 l2 he hm
  have h':((L.filter fun o=>(bFv o).any (Nat.beq t)).all (fun o=>match o.op with|.extract (.tmp _) _=>true|_=>false)&&bWz ((L.filter fun o=>(bFv o).any (Nat.beq t)).map fun o=>match o.op with|.extract _ i=>i|_=>0))=true:=by
   split at h
   .rename_i h0;rw[h0]at he;simp at he
   .rename_i x h0
    rw[h0]at he
    cases l1 with
    |nil=>simp only[List.nil_append,List.cons.injEq]at he;rw[<-he.2]at hm;cases hm
    |cons y l1=>simp at he
   .exact h
  rw[Bool.and_eq_true,List.all_eq_true,he]at h'
  obtain⟨h1,h2⟩:=h'
  have ga:=h1 oa (by simp)
  have gb:=h1 ob (by simp[hm])
  split at ga
  .rename_i x p ha
   split at gb
   .rename_i y q hb
    refine⟨x,p,y,q,ha,hb,fun e=>?_⟩
    subst e
    have hn:=bPs h2
    rw[List.map_append,List.map_cons,List.nodup_append]at hn
    have hn2:=(List.nodup_cons.1 hn.2.1).1
    apply hn2
    rw[List.mem_map]
    exact⟨ob,hm,by rw[ha,hb]⟩
   .cases gb
  .cases ga
 rcases Nat.lt_or_ge i j with hlt|hge
 .obtain⟨l1,l2,he,hm⟩:=key L i j hlt hi hj
  exact fin he hm
 .have hlt:j<i:=by omega
  obtain⟨hl,hg⟩:=List.getElem?_eq_some_iff.1 hj
  have hsp:L=L.take j++oj::L.drop (j+1):=by
   have:L.drop j=oj::L.drop (j+1):=by rw[List.drop_eq_getElem_cons hl,hg]
   rw[<-this,List.take_append_drop]
  have he:(L.filter fun o=>(bFv o).any (Nat.beq t))=(L.take j).filter (fun o=>(bFv o).any (Nat.beq t))++oj::(L.drop (j+1)).filter (fun o=>(bFv o).any (Nat.beq t)):=by
   conv=>lhs;rw[hsp]
   rw[List.filter_append,List.filter_cons,if_pos (show((bFv oj).any (Nat.beq t))=true from hrj)]
  have hm:oi∈(L.drop (j+1)).filter (fun o=>(bFv o).any (Nat.beq t)):=by
   rw[List.mem_filter]
   refine⟨?_,hri⟩
   have:(L.drop (j+1))[i-(j+1)]?=some oi:=by rw[List.getElem?_drop,show j+1+(i-(j+1))=i from by omega];exact hi
   exact List.mem_of_getElem? this
  obtain⟨x,p,y,q,h1,h2,h3⟩:=fin he hm
  exact⟨y,q,x,p,h2,h1,fun e=>h3 e.symm⟩
end
section
section
variable {b0:Nat->Prop} {β:bB5} {ob:Obs} {w:World} {f:Nat->List Nat}
theorem SR.rearr{sl sl':List AV}{tmps tmps':Array Value}{f':Nat->List Nat}(h:SR b0 β ob w sl tmps f)(hsize:tmps'.size=sl'.length)(hsl:∀i,VR2 β ob w (Av b0 β ob f) (sl'.getD i .any) (tmps'.getD i undef) (f' i))
  (hsub:∀i b,b∈f' i->∃j,b∈f j) (hnd:∀i,(f' i).Nodup) (hdis:∀i j b,b∈f' i->b∈f' j->i=j):SR b0 β ob w sl' tmps' f':=by
 have hav:∀b,b<w.heap.size->Av b0 β ob f' b->Av b0 β ob f b:=by
  intro b _ hb
  rcases hb with h1|h1|⟨i,h1⟩
  .exact .inl h1
  .exact .inr (.inl h1)
  .obtain⟨j,hj⟩:=hsub i b h1
   exact .inr (.inr ⟨j,hj⟩)
 exact⟨h.obs.mono (bad0:=fun _=>False) (Same.refl _ w) (fun _ _ x=>x.elim) hav (fun _ _ x=>x),fun i=>(hsl i).weaken hav,hsize,fun i b hb=>by
  obtain⟨j,hj⟩:=hsub i b hb
  exact h.fresh j b hj,hnd,hdis,h.b0lt⟩
theorem hasNew_1{bad:Nat->Prop}{a:AV}{v:Value}{bs:List Nat}(h:VR1 β ob w bad a v bs)(hn:bFb a=false):bs=[]:=bYk (vr12 h) hn
theorem takePart{bad:Nat->Prop}{q:Nat}{as:List AV}{vs:List Value}{bs:List Nat}(h:Vs (VR1 β ob w bad) as vs bs):∀{q:Nat} {as':List AV} {a:AV},bs.Nodup->as[q]?=some a->as'.length=as.length->(∀p,p≠q->as'[p]?=as[p]?)->as'[q]?=some (clr1 a) ->
  ∃v b1 b2,vs[q]?=some v/\VR1 β ob w bad a v b1/\Vs (VR1 β ob w bad) as' vs b2/\b1.Nodup/\b2.Nodup/\(∀x∈b1,x∈bs)/\(∀x∈b2,x∈bs)/\(∀x∈b1,x∉b2):=by
 induction h with
 |nil=>intro q as' a _ hq;simp at hq
 | @cons c as v vs b bs h1 h2 ih=>
  intro q as' a hn hq hlen hp hq'
  cases as' with
  |nil=>simp at hlen
  |cons c' as'=>
   obtain⟨n1,n2,n3⟩:=List.nodup_append.1 hn
   cases q with
   |zero=>
    simp only[List.getElem?_cons_zero,Option.some.injEq]at hq hq'
    subst hq
    have htl:as'=as:=List.ext_getElem? fun p=>by have:=hp (p+1) (by omega);simpa using this
    subst htl
    cases hh:bFb c with
    |true=>
     have hc:c' = .any:=by rw[hq'];simp[clr1,hh]
     subst hc
     refine⟨v,b,bs,rfl,h1,?_,n1,n2,fun x hx=>by simp[hx],fun x hx=>by simp[hx],fun x hx hx'=>n3 x hx x hx' rfl⟩
     have:=Vs.cons (r:=VR1 β ob w bad) (a:=.any) (v:=v) (b:=[]) rfl h2
     simpa using this
    |false=>
     have hc:c'=c:=by rw[hq'];simp[clr1,hh]
     subst hc
     have hb:b=[]:=hasNew_1 h1 hh
     subst hb
     exact⟨v,[],bs,rfl,h1,by simpa using Vs.cons h1 h2,List.nodup_nil,n2,by simp,fun x hx=>by simp[hx],by simp⟩
   |succ q=>
    have hc:c'=c:=by have:=hp 0 (by omega);simpa using this
    subst hc
    obtain⟨u,b1,b2,g1,g2,g3,g4,g5,g6,g7,g8⟩:=ih (q:=q) (as':=as') (a:=a) n2 (by simpa using hq) (by simpa using hlen) (fun p hpq=>by have:=hp (p+1) (by omega);simpa using this) (by simpa using hq')
    refine⟨u,b1,b++b2,by simpa using g1,g2,Vs.cons h1 g3,g4,List.nodup_append.2 ⟨n1,g5,fun x hx y hy he=>?_⟩,fun x hx=>by simp[g6 x hx],fun x hx=>?_,fun x hx hx'=>?_⟩
    .exact n3 x hx y (g7 y hy) he
    .rcases List.mem_append.1 hx with h|h
     .simp[h]
     .simp[g7 x h]
    .rcases List.mem_append.1 hx' with h|h
     .exact n3 x h x (g6 x hx) rfl
     .exact g8 x hx h
end
def StepAt(P:Program)(E:Env)(all:Array Oper)(L:List Oper)(ob:Obs)(sl:List AV)(o:Oper)(v:AV):Prop:=
 ∃b,cBs all sl o=some b/\if b=true then ∃C,bJu P E C/\bH7 E C ob (bCm sl) o some=some v/\∃t,o.dst=some t/\(bFb v=true->bX5 L t=true) else v = .non
structure Ctx(P:Program)(E:Env)(all:Array Oper)(L:List Oper)(avs sl0:List AV)(ob:Obs):Prop where
 pre:∃m,L=all.toList.take m
 len:L.length=avs.length
 uniq:Uniq L
 step:∀j o,L[j]?=some o->StepAt P E all L ob (bQ7 L avs sl0 j) o (avs.getD j .any)
 edge:∀(j:Nat) (o:Oper),all.toList[j]?=some o->∀e∈o.after,Region.binds .any e=true->e.on<j
 ord:∀(i j:Nat) (oi oj:Oper) (t:Nat),all.toList[i]?=some oi->all.toList[j]?=some oj->i≠j->oi.dst=some t->t∈oj.looksAt all->(i<j->Nat.testBit ((bMn all.toList).getD j 0) i=true)/\(j<i->Nat.testBit ((bMn all.toList).getD i 0) j=true)
 nn:cBy sl0
def bHo(all:Array Oper)(S:Nat->Bool):Prop:=∀(j:Nat) (o:Oper),all.toList[j]?=some o->S j=true->∀e∈o.after,Region.binds .any e=true->S e.on=true
theorem bZr{all:Array Oper}{o:Oper}{t:Nat}(h:t∈bFv o):t∈o.looksAt all:=List.mem_append_left _ h
section
variable {P:Program} {E:Env} {all:Array Oper} {L:List Oper} {avs sl0:List AV} {ob:Obs} {S:Nat->Bool}
theorem Ctx.at(h:Ctx P E all L avs sl0 ob){j:Nat}{o:Oper}(hj:L[j]?=some o):all.toList[j]?=some o:=by
 obtain⟨m,rfl⟩:=h.pre
 rw[List.getElem?_take]at hj
 split at hj
 .exact hj
 .cases hj
theorem Ctx.before(h:Ctx P E all L avs sl0 ob)(hS:bHo all S){j i:Nat}{o:Oper}(hj:all.toList[j]?=some o)(hr:S j=true\/∀e∈o.after,Region.binds .any e=true->S e.on=true)(hb:Nat.testBit ((bMn all.toList).getD j 0) i=true):S i=true:=by
 have hr':∀e∈o.after,Region.binds .any e=true->S e.on=true:=hr.elim (fun hs=>hS j o hj hs) id
 exact bMf (S:=fun i=>S i=true) h.edge hS j i o hj hr' hb
theorem Ctx.agree(h:Ctx P E all L avs sl0 ob)(hS:bHo all S){j:Nat}{o:Oper}(hj:L[j]?=some o)(hn:S j=false)(hr:∀e∈o.after,Region.binds .any e=true->S e.on=true){t:Nat}(ht:t∈o.looksAt all):
  (semL L avs sl0 S).getD t .any=(bQ7 L avs sl0 j).getD t .any \/
   ∃i oi,L[i]?=some oi/\oi.dst=some t/\S i=true/\i<j/\t<sl0.length/\bFb (avs.getD i .any)=true/\(semL L avs sl0 S).getD t .any=clrN (bDh L S i) t (avs.getD i .any)/\(bQ7 L avs sl0 j).getD t .any=avs.getD i .any:=by
 have hjl:j<=L.length:=Nat.le_of_lt (List.getElem?_eq_some_iff.1 hj).1
 rw[bKf]
 split
 .rename_i hlt
  rw[bZg h.uniq h.len t hlt j hjl]
  unfold semV
  cases hw:wr L t with
  |none=>exact .inl rfl
  |some i=>
   obtain⟨oi,hi,hd⟩:=bV1 hw
   simp only
   by_cases hij:i=j
   .subst hij
    rw[hn,if_neg (by omega)]
    exact .inl rfl
   .obtain⟨h1,h2⟩:=h.ord i j oi o t (h.at hi) (h.at hj) hij hd ht
    rcases Nat.lt_or_ge i j with hlt'|hge
    .have hSi:=h.before hS (h.at hj) (.inr hr) (h1 hlt')
     rw[hSi,if_pos hlt']
     simp only[cond_true]
     cases hv:bFb (avs.getD i .any) with
     |false=>left;unfold clrN;rw[hv];rfl
     |true=>exact .inr ⟨i,oi,hi,hd,hSi,hlt',hlt,hv,rfl,rfl⟩
    .have hlt':j<i:=by omega
     have hSi:S i=false:=by
      cases hSi:S i with
      |false=>rfl
      |true=>have:=h.before hS (h.at hi) (.inl hSi) (h2 hlt');rw[hn]at this;cases this
     rw[hSi,if_neg (by omega)]
     exact .inl rfl
 .rename_i hlt
  left
  have:(bQ7 L avs sl0 j).length=sl0.length:=bWg j
  simp[List.getD,List.getElem?_eq_none (show(bQ7 L avs sl0 j).length<=t by omega)]
theorem bYj{dst:Option Nat}{op:Op}{x q:Nat}{o:Oper}(ho:o.op = .extract (.tmp x) q){t:Nat}(ht:t∈bFv o):t=x:=by
 unfold bFv at ht
 rw[ho]at ht
 simpa[Op.operands]using ht
theorem cGv{C:bCg}{R:Type}{ρ ρ':Operand->AV}{o:Oper}{x:Operand}{q:Nat}(ho:o.op = .extract x q){vs vs':List AV}(h:ρ x = .tup vs)(h':ρ' x = .tup vs')(he:vs[q]?=vs'[q]?)(k:AV->Option R):bH7 E C ob ρ o k=bH7 E C ob ρ' o k:=by
 unfold bH7
 rw[ho]
 simp only[h,h',he]
theorem Ctx.value(h:Ctx P E all L avs sl0 ob)(hS:bHo all S){j:Nat}{o:Oper}(hj:L[j]?=some o)(hn:S j=false)(hr:∀e∈o.after,Region.binds .any e=true->S e.on=true){C:bCg}{av:AV}
  (hk:bH7 E C ob (bCm (bQ7 L avs sl0 j)) o some=some av):bH7 E C ob (bCm (semL L avs sl0 S)) o some=some av:=by
 by_cases hall:∀t∈bFv o,(semL L avs sl0 S).getD t .any=(bQ7 L avs sl0 j).getD t .any
 .rw[pureK_congr (ρ':=bCm (bQ7 L avs sl0 j)) o (fun x hx=>?_)]
  .exact hk
  .cases x with
   |tmp t=>exact hall t (by unfold bFv;rw[List.mem_filterMap];exact⟨.tmp t,by simpa using hx,rfl⟩)
   |_=>rfl
 .have:∃t,t∈bFv o/\(semL L avs sl0 S).getD t .any≠(bQ7 L avs sl0 j).getD t .any:=by
   apply Classical.byContradiction
   intro hh
   exact hall fun t ht=>Classical.byContradiction fun hne=>hh ⟨t,ht,hne⟩
  obtain⟨t,ht,hne⟩:=this
  obtain⟨i,oi,hi,hd,hSi,hij,hlt,hv,hs1,hs2⟩:=(h.agree hS hj hn hr (bZr ht)).resolve_left hne
  obtain⟨b,_,hst⟩:=h.step i oi hi
  have hb:b=true:=by
   cases b with
   |true=>rfl
   |false=>simp only[Bool.false_eq_true,if_false]at hst;rw[hst]at hv;cases hv
  subst hb
  simp only[if_true]at hst
  obtain⟨_,_,_,t',hd',hsole⟩:=hst
  rw[hd]at hd'
  cases hd'
  have hsole:=hsole hv
  have other:∀o'∈bDh L S i,bK3 o' t=true->∃x p y q,o'.op = .extract (.tmp x) p/\o.op = .extract (.tmp y) q/\p≠q:=by
   intro o' ho' hr'
   obtain⟨j',h1,h2,h3⟩:=bW5.1 ho'
   exact sole_two hsole h1 hj (fun e=>by subst e;rw[hn]at h3;cases h3) hr' (readsS_of ht)
  have:∃o'∈bDh L S i,bK3 o' t=true:=by
   apply Classical.byContradiction
   intro hh
   apply hne
   rw[hs1,hs2]
   refine clrN_none fun o' ho'=>?_
   cases hc:bK3 o' t with
   |false=>rfl
   |true=>exact absurd ⟨o',ho',hc⟩ hh
  obtain⟨o1,ho1,hr1⟩:=this
  obtain⟨_,_,y,q,_,hoq,_⟩:=other o1 ho1 hr1
  have hty:t=y:=bYj (dst:=none) (op:=o.op) hoq ht
  subst hty
  have hnoN:(bDh L S i).any (fun o=>bLg o t)=false:=by
   rw[List.any_eq_false]
   intro o' ho' hrn
   obtain⟨x,p,_,_,he,_,_⟩:=other o' ho' (cB0 hrn)
   unfold bLg at hrn
   rw[he]at hrn
   cases hrn
  have hnoX:(bDh L S i).any (fun o=>bSd o t (0+q))=false:=by
   rw[List.any_eq_false]
   intro o' ho' hrx
   obtain⟨x,p,y',q',he,he',hpq⟩:=other o' ho' (cGu hrx)
   rw[hoq]at he'
   cases he'
   unfold bSd at hrx
   rw[he]at hrx
   simp only[Bool.and_eq_true]at hrx
   have:=Nat.eq_of_beq_eq_true hrx.2
   omega
  have hclr:clrN (bDh L S i) t (avs.getD i .any)=clr (bDh L S i) t (avs.getD i .any):=by unfold clrN;rw[hv];rfl
  rw[hclr]at hs1
  cases hx:avs.getD i .any with
  |tup vs=>
   rw[hx]at hs1 hs2
   have hs1':(semL L avs sl0 S).getD t .any = .tup (clrI (bDh L S i) t vs 0):=by
    rw[hs1];unfold clr;simp only[hnoN];rfl
   rw[cGv (C:=C) (ob:=ob) (E:=E) (ρ:=bCm (semL L avs sl0 S)) (ρ':=bCm (bQ7 L avs sl0 j)) hoq hs1' hs2 (by
    rw[bPk,hnoX];simp) some]
   exact hk
  |_=>
   rw[hx]at hs1 hs2
   exact absurd (by rw[hs1,hs2];unfold clr;simp only[hnoN];rfl) hne
end
end
section
section
variable {P:Program} {E:Env} {all:Array Oper} {L:List Oper} {avs sl0:List AV} {ob:Obs} {S S':Nat->Bool}
theorem clr_congr{l l':List Oper}{t:Nat}(h:∀o,bK3 o t=true->(o∈l↔o∈l'))(v:AV):clr l t v=clr l' t v:=by
 have any_:∀p:Oper->Bool,(∀o,p o=true->bK3 o t=true)->l.any p=l'.any p:=by
  intro p hp
  rw[Bool.eq_iff_iff,List.any_eq_true,List.any_eq_true]
  exact⟨fun⟨o,h1,h2⟩=>⟨o,(h o (hp o h2)).1 h1,h2⟩,fun⟨o,h1,h2⟩=>⟨o,(h o (hp o h2)).2 h1,h2⟩⟩
 have hN:=any_ (fun o=>bLg o t) fun o h=>cB0 h
 unfold clr
 split
 .rename_i vs
  rw[hN]
  congr 2
  apply List.ext_getElem?
  intro q
  rw[bPk,bPk,any_ (fun o=>bSd o t (0+q)) fun o h=>cGu h]
 .rw[hN]
structure More(S S':Nat->Bool)(j:Nat):Prop where
 new:S' j=true
 old:∀i,i≠j->S' i=S i
theorem bVh{j:Nat}(hm:More S S' j)(hn:S j=false){i:Nat}{o':Oper}:o'∈bDh L S' i↔o'∈bDh L S i\/(L[j]?=some o'/\i<j):=by
 rw[bW5,bW5]
 constructor
 .rintro⟨k,h1,h2,h3⟩
  by_cases hk:k=j
  .subst hk;exact .inr ⟨h1,h2⟩
  .rw[hm.old k hk]at h3;exact .inl ⟨k,h1,h2,h3⟩
 .rintro(⟨k,h1,h2,h3⟩|⟨h1,h2⟩)
  .refine⟨k,h1,h2,?_⟩
   rw[hm.old k (fun e=>by subst e;rw[hn]at h3;cases h3)];exact h3
  .exact⟨j,h1,h2,hm.new⟩
theorem Ctx.dstSlot(h:Ctx P E all L avs sl0 ob)(hS:bHo all S){j:Nat}(hm:More S S' j){o:Oper}(hj:L[j]?=some o)(hn:S j=false){t:Nat}(hd:o.dst=some t)(hlt:t<sl0.length):
  (semL L avs sl0 S').getD t .any=avs.getD j .any:=by
 rw[bKf,if_pos hlt]
 unfold semV
 rw[wr_some h.uniq hj hd]
 simp only[hm.new,cond_true]
 refine clrN_none fun o' ho'=>?_
 obtain⟨r,h1,h2,h3⟩:=bW5.1 ho'
 cases hr:bK3 o' t with
 |false=>rfl
 |true=>
  have h3':S r=true:=by rw[<-hm.old r (by omega)];exact h3
  have:=h.before hS (h.at h1) (.inl h3') ((h.ord j r o o' t (h.at hj) (h.at h1) (by omega) hd (bZr (bTd hr))).1 h2)
  rw[hn]at this;cases this
theorem Ctx.keepSlot(h:Ctx P E all L avs sl0 ob){j:Nat}(hm:More S S' j){o:Oper}(hj:L[j]?=some o)(hn:S j=false){t:Nat}(hd:o.dst≠some t)(hr:bK3 o t=false):
  (semL L avs sl0 S').getD t .any=(semL L avs sl0 S).getD t .any:=by
 rw[bKf,bKf]
 split
 .unfold semV
  cases hw:wr L t with
  |none=>rfl
  |some i=>
   obtain⟨oi,hi,hdi⟩:=bV1 hw
   have hij:i≠j:=fun e=>by subst e;rw[hj]at hi;cases hi;exact hd hdi
   simp only[hm.old i hij]
   cases S i with
   |false=>rfl
   |true=>
    simp only[cond_true]
    unfold clrN
    cases bFb (avs.getD i .any) with
    |false=>rfl
    |true=>
     simp only[cond_true]
     refine clr_congr (fun o' ho'=>?_) _
     rw[bVh hm hn]
     exact⟨fun x=>x.elim id fun⟨h1,_⟩=>(by rw[hj]at h1;cases h1;rw[hr]at ho';exact absurd ho' (by simp)),fun x=>Or.inl x⟩
 .rfl
theorem clr_N{l:List Oper}{t:Nat}{v:AV}(h:l.any (fun o=>bLg o t)=true)(hv:bFb v=true):clr l t v = .any:=by
 unfold clr
 split
 .rename_i vs;rw[h];simp[clr1,hv]
 .rw[h];simp[clr1,hv]
theorem Ctx.readSlot (h : Ctx P E all L avs sl0 ob) (hS : bHo all S) {j : Nat} (hm : More S S' j) {o : Oper} (hj : L[j]? = some o) (hn : S j = false) {t : Nat} (hd : o.dst ≠ some t) (hr : bLg o t = true) :
    (semL L avs sl0 S').getD t .any = .any ∨ ((semL L avs sl0 S').getD t .any = (semL L avs sl0 S).getD t .any ∧ bFb ((semL L avs sl0 S).getD t .any) = false) := by
  rw [bKf, bKf]
  split
  · rename_i hlt
    unfold semV
    cases hw : wr L t with
    | none => exact .inr ⟨rfl, h.nn t⟩
    | some i =>
      obtain ⟨oi, hi, hdi⟩ := bV1 hw
      have hij : i ≠ j := fun e => by subst e; rw [hj] at hi; cases hi; exact hd hdi
      simp only [hm.old i hij]
      cases hSi : S i with
      | false => exact .inr ⟨rfl, h.nn t⟩
      | true =>
        simp only [cond_true]
        unfold clrN
        cases hv : bFb (avs.getD i .any) with
        | false => exact .inr ⟨rfl, hv⟩
        | true =>
          simp only [cond_true]
          left
          have hlt : i < j := by
            rcases Nat.lt_or_ge i j with h' | h'
            · exact h'
            · have := h.before hS (h.at hi) (.inl hSi) ((h.ord i j oi o t (h.at hi) (h.at hj) hij hdi (bZr (bTd (cB0 hr)))).2 (by omega))
              rw [hn] at this; cases this
          refine clr_N ?_ hv
          rw [List.any_eq_true]
          exact ⟨o, (bVh hm hn).2 (.inr ⟨hj, hlt⟩), hr⟩
  · exact .inl rfl
theorem clr1_clr1 (v : AV) : clr1 (clr1 v) = clr1 v := by
  cases h : bFb v with
  | false => have : clr1 v = v := by unfold clr1; rw [h]; rfl
             rw [this, this]
  | true => have : clr1 v = .any := by unfold clr1; rw [h]; rfl
            rw [this]; rfl
theorem Ctx.partSlot (h : Ctx P E all L avs sl0 ob) (hS : bHo all S) {j : Nat} (hm : More S S' j) {o : Oper} (hj : L[j]? = some o) (hn : S j = false) {t q : Nat} (hd : o.dst ≠ some t) (ho : o.op = .extract (.tmp t) q) :
    ((semL L avs sl0 S').getD t .any = (semL L avs sl0 S).getD t .any ∧ (bFb ((semL L avs sl0 S).getD t .any) = false ∨ ∀ vs, (semL L avs sl0 S).getD t .any ≠ .tup vs)) ∨
      ∃ vs vs', (semL L avs sl0 S).getD t .any = .tup vs ∧ (semL L avs sl0 S').getD t .any = .tup vs' ∧ vs'.length = vs.length ∧ (∀ p, p ≠ q → vs'[p]? = vs[p]?) ∧ vs'[q]? = (vs[q]?).map clr1 := by
  have hr : bK3 o t = true := by
    unfold bK3 bFv; rw [ho]; simp [Op.operands, Nat.beq_refl]
  rw [bKf, bKf]
  split
  · rename_i hlt
    unfold semV
    cases hw : wr L t with
    | none => exact .inl ⟨rfl, .inl (h.nn t)⟩
    | some i =>
      obtain ⟨oi, hi, hdi⟩ := bV1 hw
      have hij : i ≠ j := fun e => by subst e; rw [hj] at hi; cases hi; exact hd hdi
      simp only [hm.old i hij]
      cases hSi : S i with
      | false => exact .inl ⟨rfl, .inl (h.nn t)⟩
      | true =>
        simp only [cond_true]
        unfold clrN
        cases hx : bFb (avs.getD i .any) with
        | false => exact .inl ⟨rfl, .inl hx⟩
        | true =>
          simp only [cond_true]
          have hlt : i < j := by
            rcases Nat.lt_or_ge i j with h' | h'
            · exact h'
            · have := h.before hS (h.at hi) (.inl hSi) ((h.ord i j oi o t (h.at hi) (h.at hj) hij hdi (bZr (bTd hr))).2 (by omega))
              rw [hn] at this; cases this
          cases hc : (bDh L S i).any (fun o => bLg o t) with
          | true =>
            left
            have hc' : (bDh L S' i).any (fun o => bLg o t) = true := by
              rw [List.any_eq_true] at hc ⊢
              obtain ⟨o', h1, h2⟩ := hc
              exact ⟨o', (bVh hm hn).2 (.inl h1), h2⟩
            rw [clr_N hc hx, clr_N hc' hx]
            exact ⟨rfl, .inr (by simp)⟩
          | false =>
            have hc' : (bDh L S' i).any (fun o => bLg o t) = false := by
              rw [List.any_eq_false]
              intro o' ho' hrn
              rcases (bVh hm hn).1 ho' with h1 | ⟨h1, _⟩
              · exact (List.any_eq_false.1 hc o' h1) hrn
              · rw [hj] at h1; cases h1; unfold bLg at hrn; rw [ho] at hrn; cases hrn
            cases hxs : avs.getD i .any with
            | tup xs =>
              right
              refine ⟨clrI (bDh L S i) t xs 0, clrI (bDh L S' i) t xs 0, by unfold clr; simp only [hc]; rfl, by unfold clr; simp only [hc']; rfl, by rw [cAb, cAb], fun p hp => ?_, ?_⟩
              · rw [bPk, bPk]
                congr 1
                funext v
                congr 1
                rw [Bool.eq_iff_iff, List.any_eq_true, List.any_eq_true]
                constructor
                · rintro ⟨o', h1, h2⟩
                  rcases (bVh hm hn).1 h1 with h3 | ⟨h3, _⟩
                  · exact ⟨o', h3, h2⟩
                  · rw [hj] at h3; cases h3
                    unfold bSd at h2; rw [ho] at h2
                    simp only [Bool.and_eq_true] at h2
                    have := Nat.eq_of_beq_eq_true h2.2
                    omega
                · rintro ⟨o', h1, h2⟩
                  exact ⟨o', (bVh hm hn).2 (.inl h1), h2⟩
              · rw [bPk, bPk]
                have : (bDh L S' i).any (fun o => bSd o t (0 + q)) = true := by
                  rw [List.any_eq_true]
                  refine ⟨o, (bVh hm hn).2 (.inr ⟨hj, hlt⟩), ?_⟩
                  unfold bSd; rw [ho]; simp [Nat.beq_refl]
                rw [this]
                cases xs[q]? with
                | none => rfl
                | some x =>
                  simp only [Option.map_some, cond_true, Option.some.injEq]
                  cases (bDh L S i).any (fun o => bSd o t (0 + q)) with
                  | false => rfl
                  | true => exact (clr1_clr1 x).symm
            | _ =>
              left
              refine ⟨by unfold clr; simp only [hc, hc'], .inr fun vs => ?_⟩
              unfold clr; simp only [hc]; simp
  · exact .inl ⟨rfl, .inl rfl⟩
theorem cBd{o:Oper}{t:Nat}(h:bK3 o t=true):bLg o t=true\/∃q,o.op = .extract (.tmp t) q:=by
 cases hN:bLg o t with
 |true=>exact .inl rfl
 |false=>
  right
  unfold bLg at hN
  split at hN
  .rename_i x q ho
   have:=bYj (dst:=none) (op:=o.op) ho (bTd h)
   subst this
   exact⟨q,ho⟩
  .unfold bK3 at h;rw[h]at hN;cases hN
end
section
variable {b0:Nat->Prop} {β:bB5} {ob:Obs} {w:World} {f:Nat->List Nat} {P:Program} {E:Env} {all:Array Oper} {L:List Oper} {avs sl0:List AV} {S S':Nat->Bool}
def Mid(b0:Nat->Prop)(β:bB5)(ob:Obs)(w0:World)(L:List Oper)(avs sl0:List AV)(S:Nat->Bool)(w:World)(tmps:Array Value):Prop:=
 ∃f,SR b0 β ob w (semL L avs sl0 S) tmps f/\(∀i b,b∈f i->w0.heap.size<=b)/\Same (fun _=>False) w0 w
theorem cDh{tmps:Array Value}{dst:Option Nat}{v:Value}(i:Nat):(putT tmps dst v).getD i undef=if dst=some i/\i<tmps.size then v else tmps.getD i undef:=by
 cases dst with
 |none=>simp[putT]
 |some t=>
  simp only[Option.some.injEq,putT]
  by_cases hti:t=i/\i<tmps.size
  .obtain⟨rfl,hlt⟩:=hti
   simp[hlt]
  .rw[if_neg hti]
   by_cases hti':t=i
   .subst hti'
    have:¬t<tmps.size:=fun h'=>hti ⟨rfl,h'⟩
    simp[Array.setIfInBounds,this]
   .simp[Array.getElem?_setIfInBounds_ne hti']
theorem Ctx.leftSlot(h:Ctx P E all L avs sl0 ob)(hS:bHo all S){j:Nat}(hm:More S S' j){o:Oper}(hj:L[j]?=some o)(hn:S j=false){t:Nat}(hd:o.dst≠some t){bad:Nat->Prop}{v:Value}{bs:List Nat}(hnd:bs.Nodup)(hv:VR2 β ob w bad ((semL L avs sl0 S).getD t .any) v bs):
  ∃bs',VR2 β ob w bad ((semL L avs sl0 S').getD t .any) v bs'/\bs'.Nodup/\∀b∈bs',b∈bs:=by
 cases hr:bK3 o t with
 |false=>exact⟨bs,by rw[h.keepSlot hm hj hn hd hr];exact hv,hnd,fun _ h=>h⟩
 |true=>
  rcases cBd hr with hN|⟨q,ho⟩
  .rcases h.readSlot hS hm hj hn hd hN with h1|⟨h1,_⟩
   .exact⟨[],by rw[h1];rfl,List.nodup_nil,by simp⟩
   .exact⟨bs,by rw[h1];exact hv,hnd,fun _ h=>h⟩
  .rcases h.partSlot hS hm hj hn hd ho with⟨h1,_⟩|⟨vs,vs',h1,h2,h3,h4,h5⟩
   .exact⟨bs,by rw[h1];exact hv,hnd,fun _ h=>h⟩
   .rw[h1]at hv
    obtain⟨us,rfl,hvs⟩:=hv
    rw[h2]
    cases hq:vs[q]? with
    |none=>
     have:vs'=vs:=List.ext_getElem? fun p=>by
      by_cases hp:p=q
      .subst hp;rw[h5,hq];rfl
      .exact h4 p hp
     subst this
     exact⟨bs,⟨us,rfl,hvs⟩,hnd,fun _ h=>h⟩
    |some x=>
     rw[hq]at h5
     obtain⟨u,b1,b2,_,_,g3,_,g5,_,g7,_⟩:=takePart (q:=q) hvs hnd hq h3 h4 h5
     exact⟨b2,⟨us,rfl,g3⟩,g5,g7⟩
theorem Ctx.leftAll(h:Ctx P E all L avs sl0 ob)(hS:bHo all S){j:Nat}(hm:More S S' j){o:Oper}(hj:L[j]?=some o)(hn:S j=false){tmps:Array Value}(hR:SR b0 β ob w (semL L avs sl0 S) tmps f):
  ∃f':Nat->List Nat,∀t,(o.dst=some t->f' t=[])/\(o.dst≠some t->VR2 β ob w (Av b0 β ob f) ((semL L avs sl0 S').getD t .any) (tmps.getD t undef) (f' t))/\(f' t).Nodup/\∀b∈f' t,b∈f t:=by
 have:∀t,∃l:List Nat,(o.dst=some t->l=[])/\(o.dst≠some t->VR2 β ob w (Av b0 β ob f) ((semL L avs sl0 S').getD t .any) (tmps.getD t undef) l)/\l.Nodup/\∀b∈l,b∈f t:=?_
 .exact⟨fun t=>(this t).choose,fun t=>(this t).choose_spec⟩
 intro t
 by_cases hd:o.dst=some t
 .exact⟨[],fun _=>rfl,fun hne=>absurd hd hne,List.nodup_nil,by simp⟩
 .obtain⟨bs',h1,h2,h3⟩:=h.leftSlot hS hm hj hn hd (hR.nodup t) (hR.slot t)
  exact⟨bs',fun he=>absurd he hd,fun _=>h1,h2,h3⟩
theorem cCx{tmps:Array Value}{dst:Option Nat}{v:Value}:(putT tmps dst v).size=tmps.size:=by cases dst<;>simp[putT]
theorem Mid.skip{w0:World}(h:Ctx P E all L avs sl0 ob)(hS:bHo all S){j:Nat}(hm:More S S' j){o:Oper}(hj:L[j]?=some o)(hn:S j=false)(hv:avs.getD j .any = .non){tmps:Array Value}(hM:Mid b0 β ob w0 L avs sl0 S w tmps):
  Mid b0 β ob w0 L avs sl0 S' w (putT tmps o.dst undef):=by
 obtain⟨f,hR,hf,hs⟩:=hM
 obtain⟨f',hf'⟩:=h.leftAll hS hm hj hn hR
 have hsz:=hR.size
 rw[bMa]at hsz
 refine⟨f',hR.rearr (by rw[cCx,bMa];exact hsz) (fun t=>?_) (fun i b hb=>⟨i,(hf' i).2.2.2 b hb⟩) (fun i=>(hf' i).2.2.1) (fun i k b hi hk=>hR.disj i k b ((hf' i).2.2.2 b hi) ((hf' k).2.2.2 b hk)),fun i b hb=>hf i b ((hf' i).2.2.2 b hb),hs⟩
 rw[cDh]
 by_cases hd:o.dst=some t
 .rw[(hf' t).1 hd]
  by_cases hlt:t<tmps.size
  .rw[if_pos ⟨hd,hlt⟩,h.dstSlot hS hm hj hn hd (by omega),hv]
   exact⟨rfl,rfl⟩
  .rw[if_neg (fun x=>hlt x.2),bKf,if_neg (by omega)]
   rfl
 .rw[if_neg (fun x=>hd x.1)]
  exact(hf' t).2.1 hd
theorem Mid.part{w0:World}(h:Ctx P E all L avs sl0 ob)(hS:bHo all S){j:Nat}(hm:More S S' j){o:Oper}(hj:L[j]?=some o)(hn:S j=false){x q d:Nat}(ho:o.op = .extract (.tmp x) q)(hd:o.dst=some d){vs:List AV}(hx:(semL L avs sl0 S).getD x .any = .tup vs)
  (hv:vs[q]?=some (avs.getD j .any)) {a:Act} (hM:Mid b0 β ob w0 L avs sl0 S w a.tmps) :
  ∃v,(∀w,(execOp a.eval o).run P w = .ok (.value v) w)/\Mid b0 β ob w0 L avs sl0 S' w (putT a.tmps o.dst v):=by
 obtain⟨f,hR,hf,hs⟩:=hM
 have hsz:=hR.size
 rw[bMa]at hsz
 have hsx:=hR.slot x
 rw[hx]at hsx
 obtain⟨us,hux,hvs⟩:=hsx
 obtain⟨dst,op,type,pos,after,guard⟩:=o
 simp only at ho hd
 subst ho
 subst hd
 have hev:a.eval (.tmp x) = .tuple us.toArray:=by
  have:a.eval (.tmp x)=a.tmps.getD x undef:=by simp[Act.eval]
  rw[this];exact hux
 by_cases hxd:d=x
 .subst hxd
  obtain⟨f',hf'⟩:=h.leftAll hS hm hj hn hR
  obtain⟨u,b',g1,g2,g3⟩:=hvs.get hv
  refine⟨u,fun w=>by simp[execOp,Instr.extract,hev,g1],fun t=>if t=d then b' else f' t,hR.rearr (by rw[cCx,bMa];exact hsz) (fun t=>?_) (fun i b hb=>?_) (fun i=>?_) (fun i k b hi hk=>?_),fun i b hb=>?_,hs⟩
  .rw[cDh]
   by_cases hd:t=d
   .subst hd
    simp only[if_true]
    by_cases hlt:t<a.tmps.size
    .rw[if_pos ⟨trivial,hlt⟩,h.dstSlot hS hm hj hn rfl (by omega)]
     exact vr12 g2
    .have:(semL L avs sl0 S).getD t .any = .any:=by rw[bKf,if_neg (by omega)]
     rw[this]at hx;cases hx
   .simp only[if_neg hd]
    rw[if_neg (fun hc=>hd (Option.some.inj hc.1).symm)]
    exact(hf' t).2.1 fun he=>hd (Option.some.inj he).symm
  .split at hb
   .exact⟨d,g3.subset hb⟩
   .exact⟨i,(hf' i).2.2.2 b hb⟩
  .show(if i=d then b' else f' i).Nodup
   split
   .exact g3.nodup (hR.nodup d)
   .exact(hf' i).2.2.1
  .split at hi<;>split at hk
   .rename_i h1 h2;rw[h1,h2]
   .rename_i h1 h2;exact(h1.trans (hR.disj d k b (g3.subset hi) ((hf' k).2.2.2 b hk)))
   .rename_i h1 h2;exact(hR.disj i d b ((hf' i).2.2.2 b hi) (g3.subset hk)).trans h2.symm
   .exact hR.disj i k b ((hf' i).2.2.2 b hi) ((hf' k).2.2.2 b hk)
  .dsimp only at hb
   split at hb
   .exact hf d b (g3.subset hb)
   .exact hf i b ((hf' i).2.2.2 b hb)
 .have hdx:(⟨some d,.extract (.tmp x) q,type,pos,after,guard⟩:Oper).dst≠some x:=fun e=>hxd (Option.some.inj e)
  obtain⟨u,b1,b2,g1,g2,g3,g4,g5,g6,g7,g8⟩:∃u b1 b2,us[q]?=some u/\VR1 β ob w (Av b0 β ob f) (avs.getD j .any) u b1/\VR2 β ob w (Av b0 β ob f) ((semL L avs sl0 S').getD x .any) (a.tmps.getD x undef) b2/\b1.Nodup/\b2.Nodup/\(∀y∈b1,y∈f x)/\(∀y∈b2,y∈f x)/\(∀y∈b1,y∉b2):=by
   rcases h.partSlot hS hm hj hn hdx rfl with⟨h1,h2⟩|⟨ws,ws',h1,h2,h3,h4,h5⟩
   .rw[hx]at h1 h2
    have h2':=h2.resolve_right (fun h=>h vs rfl)
    have hfx:f x=[]:=bYk (hR.slot x) (by rw[hx];exact h2')
    obtain⟨u,b',e1,e2,e3⟩:=hvs.get hv
    have hb':b'=[]:=by rw[hfx]at e3;simpa using e3
    subst hb'
    refine⟨u,[],[],e1,e2,?_,List.nodup_nil,List.nodup_nil,by simp,by simp,by simp⟩
    rw[h1,hux]
    exact⟨us,rfl,by rw[hfx]at hvs;exact hvs⟩
   .rw[hx]at h1
    cases h1
    rw[hv]at h5
    obtain⟨u,b1,b2,e1,e2,e3,e4⟩:=takePart (q:=q) hvs (hR.nodup x) hv h3 h4 h5
    refine⟨u,b1,b2,e1,e2,?_,e4⟩
    rw[h2,hux]
    exact⟨us,rfl,e3⟩
  obtain⟨f',hf'⟩:=h.leftAll hS hm hj hn hR
  obtain⟨B1,hB1,hB2,hB3,hB4⟩:∃B1:List Nat,(d<a.tmps.size->B1=b1)/\(¬d<a.tmps.size->B1=[])/\B1.Nodup/\∀y∈B1,y∈b1:=by
   by_cases hc:d<a.tmps.size
   .exact⟨b1,fun _=>rfl,fun hn=>absurd hc hn,g4,fun _ h=>h⟩
   .exact⟨[],fun h=>absurd h hc,fun _=>rfl,List.nodup_nil,by simp⟩
  have g6':=fun y hy=>g6 y (hB4 y hy)
  have g8':=fun y hy=>g8 y (hB4 y hy)
  refine⟨u,fun w=>by simp[execOp,Instr.extract,hev,g1],fun t=>if t=d then B1 else if t=x then b2 else f' t,hR.rearr (by rw[cCx,bMa];exact hsz) (fun t=>?_) (fun i b hb=>?_) (fun i=>?_) (fun i k b hi hk=>?_),fun i b hb=>?_,hs⟩
  .rw[cDh]
   by_cases hd:t=d
   .subst hd
    simp only[if_true]
    by_cases hlt:t<a.tmps.size
    .rw[if_pos ⟨trivial,hlt⟩,h.dstSlot hS hm hj hn rfl (by omega),hB1 hlt]
     exact vr12 g2
    .rw[if_neg (fun hc=>hlt hc.2),bKf,if_neg (by omega)]
     rw[hB2 hlt];rfl
   .simp only[if_neg hd]
    rw[if_neg (fun hc=>hd (Option.some.inj hc.1).symm)]
    split
    .rename_i htx;subst htx;exact g3
    .exact(hf' t).2.1 fun he=>hd (Option.some.inj he).symm
  .split at hb
   .exact⟨x,g6' b hb⟩
   .split at hb
    .exact⟨x,g7 b hb⟩
    .exact⟨i,(hf' i).2.2.2 b hb⟩
  .show(if i=d then B1 else if i=x then b2 else f' i).Nodup
   split
   .exact hB3
   .split
    .exact g5
    .exact(hf' i).2.2.1
  .have own:∀i,b∈(if i=d then B1 else if i=x then b2 else f' i)->(i=d/\b∈B1)\/(i≠d/\i=x/\b∈b2)\/(i≠d/\i≠x/\b∈f i):=by
    intro i hi
    split at hi
    .rename_i h1;exact .inl ⟨h1,hi⟩
    .rename_i h1
     split at hi
     .rename_i h2;exact .inr (.inl ⟨h1,h2,hi⟩)
     .rename_i h2;exact .inr (.inr ⟨h1,h2,(hf' i).2.2.2 b hi⟩)
   rcases own i hi with⟨h1,h2⟩|⟨h1,h2,h3⟩|⟨h1,h2,h3⟩<;>rcases own k hk with⟨e1,e2⟩|⟨e1,e2,e3⟩|⟨e1,e2,e3⟩
   .rw[h1,e1]
   .exact(g8' b h2 e3).elim
   .exact(e2 (hR.disj k x b e3 (g6' b h2))).elim
   .exact(g8' b e2 h3).elim
   .rw[h2,e2]
   .exact(e2 (hR.disj k x b e3 (g7 b h3))).elim
   .exact(h2 (hR.disj i x b h3 (g6' b e2))).elim
   .exact(h2 (hR.disj i x b h3 (g7 b e3))).elim
   .exact hR.disj i k b h3 e3
  .dsimp only at hb
   split at hb
   .exact hf x b (g6' b hb)
   .split at hb
    .exact hf x b (g7 b hb)
    .exact hf i b ((hf' i).2.2.2 b hb)
end
end
section
section
variable {b0:Nat->Prop} {β:bB5} {ob:Obs} {w:World} {f:Nat->List Nat} {P:Program} {E:Env} {all:Array Oper} {L:List Oper} {avs sl0:List AV} {S S':Nat->Bool}
theorem Mid.wantEq{w0:World}(h:Ctx P E all L avs sl0 ob)(hS:bHo all S){j:Nat}{o:Oper}(hj:L[j]?=some o)(hn:S j=false)(hr:∀e∈o.after,Region.binds .any e=true->S e.on=true){tmps:Array Value}(hR:SR b0 β ob w (semL L avs sl0 S) tmps f)
  {b:Bool} (hb:cBs all (bQ7 L avs sl0 j) o=some b):Region.wanted o (yielded all tmps)=b:=by
 refine wantB_sound hR (wantB_congr hb fun g w t hg ht hnew=>?_)
 have hlook:t∈o.looksAt all:=by
  unfold Oper.looksAt
  rw[hg]
  exact List.mem_append_right _ (by simp[ht])
 rcases h.agree hS hj hn hr hlook with h1|⟨i,oi,_,_,_,_,_,h1,_,h2⟩
 .exact h1
 .rw[h2,h1]at hnew;cases hnew
theorem Mid.op{w0:World}(hA:bNb P E)(h:Ctx P E all L avs sl0 ob)(hS:bHo all S){j:Nat}(hm:More S S' j){o:Oper}(hj:L[j]?=some o)(hn:S j=false)(hr:∀e∈o.after,Region.binds .any e=true->S e.on=true){a:Act}(hM:Mid b0 β ob w0 L avs sl0 S w a.tmps):
  if Region.wanted o (yielded all a.tmps)=true then ∀next Q,(∀v w',Mid b0 β ob w0 L avs sl0 S' w' (putT a.tmps o.dst v)->next (a.put o.dst v) w')->o.wp P a w next Q
  else Mid b0 β ob w0 L avs sl0 S' w (putT a.tmps o.dst undef):=by
 obtain⟨b,hwb,hst⟩:=h.step j o hj
 have hM':=hM
 obtain⟨f,hR,hf,hs⟩:=hM'
 have hw:=Mid.wantEq (w0:=w0) h hS hj hn hr hR hwb
 rw[hw]
 cases b with
 |false=>
  simp only[Bool.false_eq_true,if_false]at hst ⊢
  exact hM.skip h hS hm hj hn hst
 |true=>
  simp only[if_true]at hst ⊢
  obtain⟨C,hC,hk,d,hd,_⟩:=hst
  have hk':=h.value hS hj hn hr hk
  by_cases hx:∃x q,o.op = .extract (.tmp x) q
  .obtain⟨x,q,ho⟩:=hx
   have hk2:=hk'
   unfold bH7 at hk2
   rw[ho]at hk2
   simp only at hk2
   split at hk2
   .rename_i vs hvs
    split at hk2
    .rename_i y hy
     cases hk2
     obtain⟨v,h1,h2⟩:=hM.part h hS hm hj hn ho hd hvs hy
     intro next Q hnx
     exact bR7 (h1 w) (hnx v w h2)
    .cases hk2
   .cases hk2
  .obtain⟨av,hav,hwp⟩:=cFj hA hC hR hk'
   cases hav
   intro next Q hnx
   refine hwp next Q fun v w' bs hdone=>hnx v w' ?_
   have hN:∀t,t∈bFv o->bLg o t=true:=fun t ht=>(cBd (readsS_of ht)).resolve_right fun⟨q,hq⟩=>hx ⟨t,q,hq⟩
   refine⟨fun t=>if o.dst=some t/\t<sl0.length then bs else if t∈bFv o then[] else if o.dst=some t then[] else f t,hR.step (dst:=o.dst) hdone (by rw[bMa,bMa]) (fun t ht hlt=>?_) (fun t ht=>?_),fun i b hb=>?_,?_⟩
   .rw[bMa]at hlt
    refine⟨h.dstSlot hS hm hj hn ht hlt,?_⟩
    rw[if_pos ⟨ht,hlt⟩]
   .rw[bMa]at ht
    have hne:¬(o.dst=some t/\t<sl0.length):=fun⟨h1,h2⟩=>ht.elim (fun h=>h h1) (fun h=>h h2)
    rw[if_neg hne]
    by_cases hdt:o.dst=some t
    .right
     have hlt:¬t<sl0.length:=fun hlt=>hne ⟨hdt,hlt⟩
     refine⟨?_,by rw[bKf,if_neg hlt]⟩
     split
     .rfl
     .first|rfl|rw[if_pos hdt]
    .by_cases htu:t∈bFv o
     .rw[if_pos htu]
      rcases h.readSlot hS hm hj hn hdt (hN t htu) with h1|⟨h1,h2⟩
      .exact .inr ⟨rfl,h1⟩
      .have hft:f t=[]:=bYk (hR.slot t) h2
       exact .inl ⟨h1,hft.symm,fun _=>hft⟩
     .rw[if_neg htu,if_neg hdt]
      left
      refine⟨h.keepSlot hm hj hn hdt ?_,rfl,fun hu=>absurd hu htu⟩
      cases hc:bK3 o t with
      |false=>rfl
      |true=>exact absurd (bTd hc) htu
   .dsimp only at hb
    split at hb
    .rcases(hdone.from_ b hb).2 with⟨q,_,hq⟩|hge
     .exact hf q b hq
     .exact Nat.le_trans hs.1 hge
    .split at hb
     .cases hb
     .split at hb
      .cases hb
      .exact hf i b hb
   .refine hs.trans hdone.same fun b hlt ⟨q,_,hq⟩=>?_
    have:=hf q b hq
    omega
theorem cF4{α:Type}{c:Bool}{x y:α}(h:(bif c then none else some x)=some y):y=x:=by
 cases c
 .cases h;rfl
 .cases h
theorem binK_val{op:BinOp}{t:TypeId}{x y av:AV}(h:binK E ob op t x y some=some av):((∃κ n κ' m,x = .d (.int κ) n/\y = .d (.int κ') m)\/(∃b c,x = .d .bool b/\y = .d .bool c)\/∃p q,bX7 x=some p/\bX7 y=some q)/\((∃κ n,av = .d (.int κ) n)\/∃b,av = .d .bool b):=by
 unfold binK at h
 split at h
 .refine⟨.inl ⟨_,_,_,_,rfl,rfl⟩,?_⟩
  split at h
  .have:=cF4 h;subst this;exact .inl ⟨_,_,rfl⟩
  .have:=cF4 h;subst this;exact .inl ⟨_,_,rfl⟩
  .split at h
   .split at h
    .cases h;exact .inl ⟨_,_,rfl⟩
    .cases h;exact .inl ⟨_,_,rfl⟩
    .cases h;exact .inl ⟨_,_,rfl⟩
    .split at h
     .cases h
     .cases h;exact .inl ⟨_,_,rfl⟩
    .split at h
     .cases h
     .cases h;exact .inl ⟨_,_,rfl⟩
    .cases h;exact .inl ⟨_,_,rfl⟩
    .cases h;exact .inl ⟨_,_,rfl⟩
    .cases h;exact .inl ⟨_,_,rfl⟩
    .cases h;exact .inl ⟨_,_,rfl⟩
    .split at h
     .cases h;exact .inr ⟨_,rfl⟩
     .cases h
   .cases h
 .refine⟨.inr (.inl ⟨_,_,rfl,rfl⟩),?_⟩
  split at h
  .split at h
   .cases h;exact .inr ⟨_,rfl⟩
   .cases h
  .split at h
   .cases h;exact .inr ⟨_,rfl⟩
   .cases h
  .cases h
 .unfold bYv at h
  split at h
  .rename_i p q hp hq
   refine⟨.inr (.inr ⟨_,_,hp,hq⟩),?_⟩
   obtain⟨_,h⟩:=bCj h
   split at h
   .cases h;exact .inr ⟨_,rfl⟩
   .cases h;exact .inr ⟨_,rfl⟩
   .cases h
  .cases h
theorem light_run(hA:bNb P E){C:bCg}{sl:List AV}{a:Act}(hR:SR b0 β ob w sl a.tmps f){o:Oper}(hl:bRo o=true){av:AV}(hk:bH7 E C ob (bCm sl) o some=some av):
  o.guard=none/\∃v,∀w',(execOp a.eval o).run P w' = .ok (.value v) w':=by
 obtain⟨dst,op,type,pos,after,guard⟩:=o
 unfold bRo at hl
 split at hl
 .rename_i t hg ho
  simp only at hg ho
  subst hg;subst ho
  exact⟨rfl,_,fun w'=>by simp[execOp];rfl⟩
 .rename_i t i hg ho
  simp only at hg ho
  subst hg;subst ho
  refine⟨rfl,?_⟩
  unfold bH7 at hk
  simp only at hk
  split at hk
  .rename_i vs hx
   split at hk
   .rename_i y hy
    have hsl:=hR.slot t
    rw[show sl.getD t .any=bCm sl (.tmp t) from rfl,hx]at hsl
    obtain⟨us,hux,hvs⟩:=hsl
    obtain⟨u,b',g1,_,_⟩:=hvs.get hy
    have hev:a.eval (.tmp t) = .tuple us.toArray:=by
     have:a.eval (.tmp t)=a.tmps.getD t undef:=by simp[Act.eval]
     rw[this];exact hux
    exact⟨u,fun w'=>by simp[execOp,Instr.extract,hev,g1]⟩
   .cases hk
  .cases hk
 .rename_i bop xt x y yt hg ho
  simp only at hg ho
  subst hg;subst ho
  refine⟨rfl,?_⟩
  have hb:binK E ob bop xt (bCm sl x) (bCm sl y) some=some av:=hk
  obtain⟨bx,hx,_⟩:=opnd hR x
  obtain⟨by_,hy,_⟩:=opnd hR y
  obtain⟨hxy,hav⟩:=binK_val hb
  have at_:∀w',∃z,(do eqGuard bop xt x y (a.eval x) (a.eval y);binOp bop xt (a.eval x) (a.eval y):Sem Value).run P w' = .ok z w'/\VR2 β ob w' (fun _=>False) av z []:=by
   intro w'
   have mk:∃bx by_,VR2 β ob w' (fun _=>False) (bCm sl x) (a.eval x) bx/\VR2 β ob w' (fun _=>False) (bCm sl y) (a.eval y) by_:=by
    rcases hxy with⟨κ,n,κ',m,h1,h2⟩|⟨b,c,h1,h2⟩|⟨p,q,h1,h2⟩
    .rw[h1]at hx;rw[h2]at hy
     rw[h1,h2,(bDw hx).1,(bDw hy).1]
     exact⟨[],[],bMg _ _,bMg _ _⟩
    .rw[h1]at hx;rw[h2]at hy
     rw[h1,h2,(bK2 hx).1,(bK2 hy).1]
     exact⟨[],[],bVg _,bVg _⟩
    .exact⟨[],[],(bSf h1 hx).2 _ _,(bSf h2 hy).2 _ _⟩
   obtain⟨c1,c2,m1,m2⟩:=mk
   obtain⟨av',z,e1,e2,e3⟩:=bin_sound (P:=P) (ox:=x) (oy:=y) hb hA.env m1 m2
   cases e1
   exact⟨z,e2,e3 _⟩
  obtain⟨z,hz,hvz⟩:=at_ w
  refine⟨z,fun w'=>?_⟩
  obtain⟨z',hz',hvz'⟩:=at_ w'
  have:z'=z:=by
   rcases hav with⟨κ,n,rfl⟩|⟨b,rfl⟩
   .rw[(bDw hvz).1,(bDw hvz').1]
   .rw[(bK2 hvz).1,(bK2 hvz').1]
  subst this
  have:(execOp a.eval ⟨dst,.binOp bop xt x y yt,type,pos,after,none⟩)=(do pure (.value (<-(do eqGuard bop xt x y (a.eval x) (a.eval y);binOp bop xt (a.eval x) (a.eval y):Sem Value))):Sem Next):=rfl
  rw[this,Sem.run_bind,hz']
  rfl
 .cases hl
end
end
section
section
variable {b0:Nat->Prop} {β:bB5} {ob:Obs} {w:World} {f:Nat->List Nat} {P:Program} {E:Env} {all:Array Oper} {L:List Oper} {avs sl0:List AV} {S S':Nat->Bool}
theorem leftVs{bad:Nat->Prop}{as:List AV}{vs:List Value}{bs:List Nat}(h:Vs (VR1 β ob w bad) as vs bs):∀{as':List AV},bs.Nodup->as'.length=as.length->(∀(p:Nat),as'[p]?=as[p]?\/as'[p]?=some .any) ->
  ∃bs',Vs (VR1 β ob w bad) as' vs bs'/\bs'.Nodup/\∀b∈bs',b∈bs:=by
 induction h with
 |nil=>
  intro as' _ hl _
  have:as'=[]:=List.eq_nil_of_length_eq_zero hl
  subst this
  exact⟨[],.nil,List.nodup_nil,by simp⟩
 | @cons c as v vs b bs h1 h2 ih=>
  intro as' hn hl hp
  cases as' with
  |nil=>simp at hl
  |cons c' as'=>
   obtain⟨n1,n2,n3⟩:=List.nodup_append.1 hn
   obtain⟨bs',g1,g2,g3⟩:=ih (as':=as') n2 (by simpa using hl) (fun p=>by have:=hp (p+1);simpa using this)
   rcases hp 0 with h0|h0
   .simp only[List.getElem?_cons_zero,Option.some.injEq]at h0
    subst h0
    refine⟨b++bs',.cons h1 g1,List.nodup_append.2 ⟨n1,g2,fun x hx y hy=>n3 x hx y (g3 y hy)⟩,fun x hx=>?_⟩
    rcases List.mem_append.1 hx with h|h
    .simp[h]
    .simp[g3 x h]
   .simp only[List.getElem?_cons_zero,Option.some.injEq]at h0
    subst h0
    refine⟨bs',by simpa using Vs.cons (r:=VR1 β ob w bad) (a:=.any) (v:=v) (b:=[]) rfl g1,g2,fun x hx=>by simp[g3 x hx]⟩
theorem clr_more{bad:Nat->Prop}{l l':List Oper}{t:Nat}{x:AV}(hxn:bFb x=true)(hsub:∀o∈l,o∈l'){v:Value}{bs:List Nat}(hn:bs.Nodup)(h:VR2 β ob w bad (clr l t x) v bs):∃bs',VR2 β ob w bad (clr l' t x) v bs'/\bs'.Nodup/\∀b∈bs',b∈bs:=by
 have any_:∀p:Oper->Bool,l.any p=true->l'.any p=true:=by
  intro p hp
  rw[List.any_eq_true]at hp ⊢
  obtain⟨o,h1,h2⟩:=hp
  exact⟨o,hsub o h1,h2⟩
 have clr1_:∀y:AV,clr1 y=y\/clr1 y = .any:=fun y=>by unfold clr1;cases bFb y<;>simp
 have other:(∀vs,x ≠ .tup vs)->∃bs',VR2 β ob w bad (clr l' t x) v bs'/\bs'.Nodup/\∀b∈bs',b∈bs:=by
  intro hx
  have e:∀l:List Oper,clr l t x=bif l.any (fun o=>bLg o t) then clr1 x else x:=by
   intro l;unfold clr;split
   .exact absurd rfl (hx _)
   .rfl
  rw[e]at h ⊢
  cases hc:l.any (fun o=>bLg o t) with
  |true=>rw[any_ _ hc];rw[hc]at h;exact⟨bs,h,hn,fun _ h=>h⟩
  |false=>
   rw[hc]at h
   cases hc':l'.any (fun o=>bLg o t) with
   |false=>exact⟨bs,h,hn,fun _ h=>h⟩
   |true=>
    simp only[cond_true]
    rcases clr1_ x with h1|h1
    .rw[h1];exact⟨bs,h,hn,fun _ h=>h⟩
    .rw[h1];exact⟨[],rfl,List.nodup_nil,by simp⟩
 cases x with
 |tup xs=>
  unfold clr at h ⊢
  simp only at h ⊢
  cases hc:l.any (fun o=>bLg o t) with
  |true=>rw[any_ _ hc];rw[hc]at h;exact⟨bs,h,hn,fun _ h=>h⟩
  |false=>
   rw[hc]at h
   simp only[cond_false]at h
   obtain⟨us,rfl,hvs⟩:=h
   cases hc':l'.any (fun o=>bLg o t) with
   |false=>
    simp only[cond_false]
    obtain⟨bs',g1,g2,g3⟩:=leftVs (as':=clrI l' t xs 0) hvs hn (by rw[cAb,cAb]) (fun p=>by
     rw[bPk,bPk]
     cases xs[p]? with
     |none=>exact .inl rfl
     |some y=>
      simp only[Option.map_some,Option.some.injEq]
      cases hX:l.any (fun o=>bSd o t (0+p)) with
      |true=>rw[any_ _ hX];exact .inl rfl
      |false=>
       cases l'.any (fun o=>bSd o t (0+p)) with
       |false=>exact .inl rfl
       |true=>exact clr1_ y)
    exact⟨bs',⟨us,rfl,g1⟩,g2,g3⟩
   |true=>
    simp only[cond_true]
    have:clr1 (.tup xs) = .any:=by unfold clr1;rw[hxn];rfl
    rw[this];exact⟨[],rfl,List.nodup_nil,by simp⟩
 |_=>exact other (by simp)
theorem setL_setL{α:Type}:∀{l:List α} {t:Nat} {x y:α},setL (setL l t x) t y=setL l t y
 |[],t,x,y=>rfl
 |z::r,0,x,y=>rfl
 |z::r,t+1,x,y=>by simp only[setL,setL_setL]
theorem bSa{tmps:Array Value}{w0:World}{β0:bB5}{ob0:Obs}:∀(r:List Oper) (st:St) (slx:List AV) (f:Nat->List Nat) (β:bB5),SR b0 β st.ob w slx tmps f->slx.length=st.sl.length->(r.filterMap (·.dst)).Nodup ->
  (∀o∈r,o∈L) ->
  (∀t,slx.getD t .any=st.sl.getD t .any\/∃l:List Oper,(∀o∈l,o∈L)/\bFb (st.sl.getD t .any)=true/\slx.getD t .any=clr l t (st.sl.getD t .any)) ->
  (∀t,bFb (st.sl.getD t .any)=true->∃o∈r,o.dst=some t) ->
  (∀i b,b∈f i->w0.heap.size<=b)->(∀b,Own β st.ob b->Own β0 ob0 b\/w0.heap.size<=b) ->
  ∃β',Rel b0 β' (settle L st r) w tmps/\(settle L st r).f=st.f/\∀b,Own β' (settle L st r).ob b->Own β0 ob0 b\/w0.heap.size<=b
 |[],st,slx,f,β,hR,hl,hn,hrL,hs,hnew,hf,ho=>by
  have hnn:cBy st.sl:=fun i=>by
   cases h:bFb (st.sl.getD i .any) with
   |false=>rfl
   |true=>obtain⟨o,ho,_⟩:=hnew i h;cases ho
  have heq:slx=st.sl:=by
   apply List.ext_getElem?
   intro t
   have:=hs t
   rcases this with h|⟨l,_,h,_⟩
   .by_cases hlt:t<slx.length
    .rw[List.getElem?_eq_getElem hlt,List.getElem?_eq_getElem (by omega)]
     simp only[List.getD,List.getElem?_eq_getElem hlt,List.getElem?_eq_getElem (show t<st.sl.length by omega),Option.getD_some]at h
     rw[h]
    .rw[List.getElem?_eq_none (by omega),List.getElem?_eq_none (by omega)]
   .rw[hnn t]at h;cases h
  subst heq
  exact⟨β,⟨sr_f0 hR hnn,hnn⟩,rfl,ho⟩
 |o::r,st,slx,f,β,hR,hl,hn,hrL,hs,hnew,hf,ho=>by
  have hn':(r.filterMap (·.dst)).Nodup:=by
   rw[List.filterMap_cons]at hn
   split at hn
   .exact hn
   .exact(List.nodup_cons.1 hn).2
  have hrL':∀o∈r,o∈L:=fun o ho=>hrL o (by simp[ho])
  cases hd:o.dst with
  |none=>
   have he:settle L st (o::r)=settle L st r:=by simp only[settle,hd]
   rw[he]
   exact bSa r st slx f β hR hl hn' hrL' hs (fun t ht=>by
    obtain⟨o',h1,h2⟩:=hnew t ht
    rcases List.mem_cons.1 h1 with h|h
    .subst h;rw[hd]at h2;cases h2
    .exact⟨o',h,h2⟩) hf ho
  |some t=>
   have hnt:∀o'∈r,o'.dst≠some t:=fun o' ho' he=>by
    rw[List.filterMap_cons,hd]at hn
    exact(List.nodup_cons.1 hn).1 (List.mem_filterMap.2 ⟨o',ho',he⟩)
   cases hh:bFb (st.sl.getD t .any) with
   |false=>
    have he:settle L st (o::r)=settle L st r:=by simp only[settle,hd,hh,cond_false]
    rw[he]
    exact bSa r st slx f β hR hl hn' hrL' hs (fun t' ht=>by
     obtain⟨o',h1,h2⟩:=hnew t' ht
     rcases List.mem_cons.1 h1 with h|h
     .subst h;rw[hd]at h2;cases h2;rw[hh]at ht;cases ht
     .exact⟨o',h,h2⟩) hf ho
   |true=>
    have he:settle L st (o::r)=settle L (st.put (some t) (clr L t (st.sl.getD t .any))) r:=by simp only[settle,hd,hh,cond_true]
    rw[he]
    have hlt:t<st.sl.length:=by
     rcases Nat.lt_or_ge t st.sl.length with h|h
     .exact h
     .have:st.sl.getD t .any = .any:=by simp[List.getD,List.getElem?_eq_none h]
      rw[this]at hh;cases hh
    obtain⟨l,hlL,hsl⟩:∃l:List Oper,(∀o∈l,o∈L)/\slx.getD t .any=clr l t (st.sl.getD t .any):=by
     rcases hs t with h|⟨l,h1,_,h2⟩
     .exact⟨[],by simp,by rw[h,clr_none (by simp)]⟩
     .exact⟨l,h1,h2⟩
    have hslot:=hR.slot t
    rw[hsl]at hslot
    obtain⟨bs',g1,g2,g3⟩:=clr_more hh hlL (hR.nodup t) hslot
    -- the slot is told anew
    have hR1:SR b0 β st.ob w (setL slx t (clr L t (st.sl.getD t .any))) tmps (fun i=>if i=t then bs' else f i):=by
     refine hR.rearr (by rw[bM7];exact hR.size) (fun i=>?_) (fun i b hb=>?_) (fun i=>?_) (fun i k b hi hk=>?_)
     .rw[bMw]
      by_cases hi:i=t
      .subst hi
       rw[if_pos ⟨rfl,by rw[hl];exact hlt⟩,if_pos rfl];exact g1
      .rw[if_neg (fun h=>hi h.1),if_neg hi];exact hR.slot i
     .split at hb
      .exact⟨t,g3 b hb⟩
      .exact⟨i,hb⟩
     .show(if i=t then bs' else f i).Nodup
      split
      .exact g2
      .exact hR.nodup i
     .split at hi<;>split at hk
      .rename_i h1 h2;rw[h1,h2]
      .rename_i h1 h2;exact h1.trans (hR.disj t k b (g3 b hi) hk)
      .rename_i h1 h2;exact(hR.disj i t b hi (g3 b hk)).trans h2.symm
      .exact hR.disj i k b hi hk
    obtain⟨β',k1,k2,k3,k4⟩:=hR1.key (t:=t) (key:=keyOf t) (a:=clr L t (st.sl.getD t .any)) (by have:=hR1.slot t;rw[bMw,if_pos ⟨rfl,by rw[hl];exact hlt⟩]at this;exact this)
    have hput:st.put (some t) (clr L t (st.sl.getD t .any))={ st with sl:=setL st.sl t (keyed (keyOf t) st.ob (clr L t (st.sl.getD t .any))).1,ob:=(keyed (keyOf t) st.ob (clr L t (st.sl.getD t .any))).2 }:=rfl
    rw[hput]
    have hsets:=@setL_setL AV slx t (clr L t (st.sl.getD t .any)) (keyed (keyOf t) st.ob (clr L t (st.sl.getD t .any))).1
    rw[hsets]at k1
    refine bSa r { st with sl:=setL st.sl t (keyed (keyOf t) st.ob (clr L t (st.sl.getD t .any))).1,ob:=(keyed (keyOf t) st.ob (clr L t (st.sl.getD t .any))).2 } (setL slx t (keyed (keyOf t) st.ob (clr L t (st.sl.getD t .any))).1) _ β' k1 (by simp only[bM7];exact hl) hn' hrL' (fun i=>?_) (fun i hi=>?_) (fun i b hb=>?_) (fun b hb=>?_)
    .simp only[bMw]
     by_cases hit:i=t
     .subst hit
      rw[if_pos ⟨rfl,by rw[hl];exact hlt⟩,if_pos ⟨rfl,hlt⟩]
      exact .inl rfl
     .rw[if_neg (fun h=>hit h.1),if_neg (fun h=>hit h.1)]
      exact hs i
    .simp only[bMw]at hi
     by_cases hit:i=t
     .subst hit
      rw[if_pos ⟨rfl,hlt⟩,k2]at hi;cases hi
     .rw[if_neg (fun h=>hit h.1)]at hi
      obtain⟨o',h1,h2⟩:=hnew i hi
      rcases List.mem_cons.1 h1 with h|h
      .subst h;rw[hd]at h2;cases h2;exact absurd rfl hit
      .exact⟨o',h,h2⟩
    .split at hb
     .cases hb
     .rename_i hit;first|exact hf i b hb|(rw[if_neg hit]at hb;exact hf i b hb)
    .rcases k4 b hb with h|h
     .exact ho b h
     .simp only[if_true]at h
      exact .inr (hf t b (g3 b h))
end
end
section
section
variable {b0:Nat->Prop} {P:Program} {E:Env} {all:Array Oper}
theorem trace{s:List Sh}{mm:List Oper}{t:List It}{r:dens s}{f0:Nat}{ob:Obs}:∀(l:List Oper) (n:Nat) (sl:List AV),(∀m,m<n->bJu P E (bHe E (runF E m)))->runF E n s (.aops all l mm::t) { f:=f0,sl:=sl,ob:=ob }=some r ->
  ∃(avs:List AV) (n':Nat),n'<=n/\avs.length=l.length/\runF E n' s t (settle mm { f:=f0,sl:=(l.zip avs).foldl putL sl,ob:=ob } mm)=some r /\
   ∀j o,l[j]?=some o->StepAt P E all mm ob (((l.zip avs).take j).foldl putL sl) o (avs.getD j .any)
 |[],n,sl,hC,hr=>by
  cases n with
  |zero=>cases hr
  |succ n=>exact⟨[],n,by omega,rfl,hr,fun j o h=>by simp at h⟩
 |o::l,n,sl,hC,hr=>by
  cases n with
  |zero=>cases hr
  |succ n=>
   have hr':cA9 E (bHe E (runF E n)) all mm ob o sl (fun sl=>runF E n s (.aops all l mm::t) { f:=f0,sl:=sl,ob:=ob })=some r:=hr
   unfold cA9 at hr'
   obtain⟨b,hb,h1⟩:=wantK_B hr'
   have go:∀(v:AV),StepAt P E all mm ob sl o v->runF E n s (.aops all l mm::t) { f:=f0,sl:=putL sl (o,v),ob:=ob }=some r ->
     ∃(avs:List AV) (n':Nat),n'<=n+1/\avs.length=(o::l).length/\runF E n' s t (settle mm { f:=f0,sl:=((o::l).zip avs).foldl putL sl,ob:=ob } mm)=some r /\
      ∀j o',(o::l)[j]?=some o'->StepAt P E all mm ob ((((o::l).zip avs).take j).foldl putL sl) o' (avs.getD j .any):=by
    intro v hst hrun
    obtain⟨avs,n',g1,g2,g3,g4⟩:=trace l n (putL sl (o,v)) (fun m hm=>hC m (by omega)) hrun
    refine⟨v::avs,n',by omega,by simp[g2],g3,fun j o' hj=>?_⟩
    cases j with
    |zero=>
     simp only[List.getElem?_cons_zero,Option.some.injEq]at hj
     subst hj
     exact hst
    |succ j=>
     have:=g4 j o' (by simpa using hj)
     simpa using this
   cases b with
   |false=>
    simp only[cond_false]at h1
    refine go .non ⟨false,hb,by simp⟩ ?_
    unfold putL
    cases hd:o.dst<;>simp only[hd]at h1 ⊢ <;> exact h1
   |true=>
    simp only[cond_true]at h1
    rw[cAw]at h1
    obtain⟨v,hv,h2⟩:=bind_some h1
    cases hd:o.dst with
    |none=>simp only[hd]at h2;cases h2
    |some d=>
     simp only[hd]at h2
     obtain⟨hc,h3⟩:=bCj h2
     refine go v ⟨true,hb,?_⟩ ?_
     .simp only[if_true]
      refine⟨_,hC n (by omega),hv,d,hd,fun hn=>?_⟩
      rw[hn]at hc;simpa using hc
     .unfold putL;simp only[hd];exact h3
structure CutP(all:Array Oper)(m:Nat):Prop where
 uniq:(all.toList.filterMap (·.dst)).Nodup
 nosel:Region.noSelect all=true
 edge:∀(j:Nat) (o:Oper),all.toList[j]?=some o->∀e∈o.after,Region.binds .any e=true->e.on<j
 ord:∀(i j:Nat) (oi oj:Oper) (t:Nat),all.toList[i]?=some oi->all.toList[j]?=some oj->i≠j->oi.dst=some t->t∈oj.looksAt all->(i<j->Nat.testBit ((bMn all.toList).getD j 0) i=true)/\(j<i->Nat.testBit ((bMn all.toList).getD i 0) j=true)
 late:∀(i j:Nat) (oi oj:Oper),all.toList[i]?=some oi->all.toList[j]?=some oj->m<=j->i<j->Nat.testBit ((bMn all.toList).getD j 0) i=true\/(i<m/\bRo oi=true)\/(j=m/\i<m/\swapOp (all.toList.take j) oi oj=true/\swapAt (bMn all.toList) all.size i j=true)
 light:∀(i j:Nat) (oi oj:Oper),all.toList[i]?=some oi->all.toList[j]?=some oj->j<m->bRo oj=true->i≠j->Nat.testBit ((bMn all.toList).getD j 0) i=true\/(∃e∈oi.after,Region.binds .any e=true/\e.on=j)\/oj.apart all oi=true
theorem cutP{m:Nat}(h:cutOK all m=true):CutP all m:=by
 unfold cutOK at h
 simp only[Bool.and_eq_true]at h
 obtain⟨⟨h1,h2⟩,h3⟩:=h
 have h3':∀(j:Nat) (o:Oper),all.toList[j]?=some o->_:=fun j o hj=>(List.all_eq_true.1 h3 (o,j) (by rw[List.mem_zipIdx_iff_getElem?];exact hj))
 have mem:∀{i:Nat} {a:Oper},all.toList[i]?=some a->(a,i)∈all.toList.zipIdx:=fun hi=>by rw[List.mem_zipIdx_iff_getElem?];exact hi
 have ltb:∀{a b:Nat},Nat.blt a b=true↔a<b:=by intro a b;simp[Nat.blt_eq]
 have beq':∀{a b:Nat},Nat.beq a b=true↔a=b:=by intro a b;simp
 refine⟨bPs h1,h2,fun j o hj e he hb=>?_,fun i j oi oj t hi hj hne hd ht=>?_,fun i j oi oj hi hj hm hij=>?_,fun i j oi oj hi hj hm hl hne=>?_⟩
 .have:=h3' j o hj
  simp only[Bool.and_eq_true]at this
  have h4:=(Array.all_eq_true_iff_forall_mem.1 this.1.1.1) e he
  simp only[Bool.or_eq_true,Bool.not_eq_true']at h4
  rcases h4 with h4|h4
  .rw[hb]at h4;cases h4
  .exact ltb.1 h4
 .have:=h3' j oj hj
  simp only[Bool.and_eq_true]at this
  have h4:=List.all_eq_true.1 this.1.1.2 (oi,i) (mem hi)
  simp only[hd,Bool.or_eq_true,Bool.not_eq_true']at h4
  rcases h4 with(h4|h4)|h4
  .exact absurd (beq'.1 h4) hne
  .have:(oj.looksAt all).any (Nat.beq t)=true:=by rw[List.any_eq_true];exact⟨t,ht,Nat.beq_refl t⟩
   rw[this]at h4;cases h4
  .constructor
   .intro hlt
    have hb:Nat.blt i j=true:=ltb.2 hlt
    rw[hb]at h4;exact h4
   .intro hlt
    have hb:Nat.blt i j=false:=by
     cases hc:Nat.blt i j with
     |false=>rfl
     |true=>have:=ltb.1 hc;omega
    rw[hb]at h4;exact h4
 .have:=h3' j oj hj
  simp only[Bool.and_eq_true]at this
  have h4:=this.1.2
  simp only[Bool.or_eq_true]at h4
  rcases h4 with h4|h4
  .have:=ltb.1 h4;omega
  .have h5:=List.all_eq_true.1 h4 (oi,i) (mem hi)
   simp only[Bool.or_eq_true,Bool.and_eq_true]at h5
   rcases h5 with((h5|h5)|h5)|h5
   .have:=Nat.le_of_ble_eq_true h5;omega
   .exact .inl h5
   .exact .inr (.inl ⟨ltb.1 h5.1,h5.2⟩)
   .exact .inr (.inr ⟨beq'.1 h5.1.1.1,ltb.1 h5.1.1.2,h5.1.2,h5.2⟩)
 .have:=h3' j oj hj
  simp only[Bool.and_eq_true]at this
  have h4:=this.2
  simp only[Bool.or_eq_true,Bool.not_eq_true']at h4
  rcases h4 with h4|h4
  .have hb:Nat.blt j m=true:=ltb.2 hm
   rw[hb,hl]at h4;cases h4
  .have h5:=List.all_eq_true.1 h4 (oi,i) (mem hi)
   simp only[Bool.or_eq_true]at h5
   rcases h5 with((h5|h5)|h5)|h5
   .exact absurd (beq'.1 h5) hne
   .exact .inl h5
   .obtain⟨e,he,hb⟩:=Array.any_eq_true'.1 h5
    simp only[Bool.and_eq_true]at hb
    exact .inr (.inl ⟨e,he,hb.1,beq'.1 hb.2⟩)
   .exact .inr (.inr h5)
theorem ops_any{s:List Sh}{m np:Nat}(hA:bNb P E)(hc:CutP all m)(hdst:∀(i:Nat) o,all[i]?=some o->cBv np o=true){k:List It}{r:dens s}:∀(l:List Oper) (i n:Nat) (β:bB5) (st:St) (a:Act) (w:World) (β0:bB5) (st0:St) (w0:World) (a0:Act) (n0 fuel:Nat) (listed:Array Bool),
  all.toList.drop i=l->m<=i\/i=all.size->listed.size=all.size->(∀q,q<all.size->listed.getD q true=decide (q<i))->l.length<=fuel ->
  runF E n s (.ops all l::k) st=some r->n<=n0->(∀m,m<n0->bJu P E (bHe E (runF E m)))->Rel b0 β st w a.tmps ->
  (∀b,Own β st.ob b->Own β0 st0.ob b\/w0.heap.size<=b)->Same (Own β0 st0.ob) w0 w->st.f=st0.f->Kept np a0 a ->
  wpAny P .any all (bPq E np b0 β0 st0 w0 a0 s k n0 r) fuel listed a w
 |[],i,n,β,st,a,w,β0,st0,w0,a0,n0,fuel,listed,hl,hmi,hsz,hli,hfu,hr,hn,hC,hS,ho,hs,hf,hd=>by
  have hi:all.size<=i:=by
   have:=congrArg List.length hl
   simp at this;omega
  have hready:Region.ready .any all listed=[]:=by
   cases hh:Region.ready .any all listed with
   |nil=>rfl
   |cons j js=>
    have hj:j∈Region.ready .any all listed:=by rw[hh];simp
    obtain⟨h1,o,h2,_⟩:=mem_ready.1 hj
    have hlt:j<all.size:=(Array.getElem?_eq_some_iff.1 h2).1
    rw[hli j hlt]at h1
    simp at h1;omega
  cases n with
  |zero=>cases hr
  |succ n=>
   have hr':runF E n s k st=some r:=hr
   exact wpAny_done hready ⟨st,n,by omega,hr',hf,hd,Goes.trans hS ho hs (Goes.refl hS)⟩ fuel
 |o::l,i,n,β,st,a,w,β0,st0,w0,a0,n0,fuel,listed,hl,hmi,hsz,hli,hfu,hr,hn,hC,hS,ho,hs,hf,hd=>by
  cases n with
  |zero=>cases hr
  |succ n=>
   cases fuel with
   |zero=>simp at hfu
   |succ fuel=>
    have hi:all[i]?=some o:=by
     have:=congrArg (fun x:List Oper=>x[0]?) hl
     simpa using this
    have hiL:all.toList[i]?=some o:=by simpa using hi
    have hilt:i<all.size:=(Array.getElem?_eq_some_iff.1 hi).1
    have hl':all.toList.drop (i+1)=l:=by
     rw[<-List.drop_drop,hl];rfl
    have hmi':m<=i:=hmi.resolve_right (by omega)
    have hr':bS0 E (bHe E (runF E n)) all o st (fun st=>runF E n s (.ops all l::k) st)=some r:=hr
    obtain⟨st1,h1,h2,h3⟩:=bT6 hA (hC n (by omega)) hS hr'
    have hlistedF:∀q,listed.getD q false=true↔(q<all.size/\q<i):=by
     intro q
     by_cases hq:q<all.size
     .have:=hli q hq
      have h':listed.getD q false=listed.getD q true:=by
       have:q<listed.size:=by omega
       simp[this]
      rw[h',this];simp[hq]
     .have:listed.getD q false=false:=by simp[Array.getElem?_eq_none (show listed.size<=q by omega)]
      rw[this];simp[hq]
    have hin:i∈Region.ready .any all listed:=by
     rw[mem_ready]
     refine⟨by rw[hli i hilt];simp,o,hi,fun e he hb=>?_⟩
     have:=hc.edge i o hiL e he hb
     exact(hlistedF e.on).2 ⟨by omega,this⟩
    refine⟨fun h=>(by rw[h]at hin;cases hin),fun j hj=>?_⟩
    obtain⟨hj1,oj,hj2,hj3⟩:=mem_ready.1 hj
    have hjlt:j<all.size:=(Array.getElem?_eq_some_iff.1 hj2).1
    have hji:i<=j:=by
     rw[hli j hjlt]at hj1
     simpa using hj1
    have hjiL:all.toList[j]?=some oj:=by simpa using hj2
    have hjeq:j=i:=by
     rcases Nat.lt_or_ge i j with hlt|hge
     .exfalso
      have hb:Nat.testBit ((bMn all.toList).getD j 0) i=true:=(hc.late i j o oj hiL hjiL (by omega) hlt).resolve_right fun h=>by rcases h with⟨h,_⟩|⟨_,h,_⟩<;>omega
      have:=bMf (S:=fun q=>listed.getD q false=true) hc.edge (fun j' o' hj' hs' e he hb=>by
       obtain⟨e1,e2⟩:=(hlistedF j').1 hs'
       have:=hc.edge j' o' hj' e he hb
       exact(hlistedF e.on).2 ⟨by omega,by omega⟩) j i oj hjiL hj3 hb
      have:=((hlistedF i).1 this).2
      omega
     .omega
    subst hjeq
    unfold wpOp
    rw[hi]
    dsimp only
    have hgo:=h3 (wpAny P .any all (bPq E np b0 β0 st0 w0 a0 s k n0 r) fuel (listed.setIfInBounds j true)) (bPq E np b0 β0 st0 w0 a0 s k n0 r) fun v w' hg=>by
     obtain⟨⟨β1,g1,g2⟩,g3⟩:=hg
     refine ops_any hA hc hdst l (j+1) n β1 st1 (a.put o.dst v) w' β0 st0 w0 a0 n0 fuel (listed.setIfInBounds j true) hl' (.inl (by omega)) (by simpa using hsz) (fun q hq=>?_) (by simpa using hfu) h1 (by omega) hC (by rw[bQz];exact g1) (fun b hb=>?_) ?_ (h2.trans hf) (hd.put (hdst _ _ hi) v)
     .by_cases hqj:j=q
      .subst hqj
       have:j<listed.size:=by omega
       simp[this]
      .rw[getD_set_ne true hqj,hli q hq]
       rw[decide_eq_decide];omega
     .rcases g2 b hb with h|h
      .exact ho b h
      .exact .inr (Nat.le_trans hs.1 h)
     .exact hs.trans g3 fun b hlt hb=>(ho b hb).resolve_right (by omega)
    split
    .rename_i hw;rw[if_pos hw]at hgo;exact .inl hgo
    .rename_i hw;rw[if_neg hw]at hgo;exact hgo
theorem least(S:Nat->Bool):∀n,(∀q,q<n->S q=true)\/∃i,i<n/\S i=false/\∀q,q<i->S q=true
 |0=>.inl fun q hq=>by omega
 |n+1=>by
  rcases least S n with h|⟨i,h1,h2,h3⟩
  .cases hn:S n with
   |true=>
    refine .inl fun q hq=>?_
    rcases Nat.lt_or_ge q n with h'|h'
    .exact h q h'
    .rw[show q=n from by omega];exact hn
   |false=>exact .inr ⟨n,by omega,hn,h⟩
  .exact .inr ⟨i,by omega,h2,h3⟩
def unl(listed:Array Bool)(n:Nat):Nat:=(List.range n).countP fun i=>!listed.getD i true
theorem cF3{p p':Nat->Bool}:∀{l:List Nat} {j:Nat},l.Nodup->j∈l->p j=true->p' j=false->(∀i,i≠j->p' i=p i)->l.countP p=l.countP p'+1
 |[],j,_,h,_,_,_=>by cases h
 |x::l,j,hn,hm,hp,hp',ho=>by
  obtain⟨h1,h2⟩:=List.nodup_cons.1 hn
  rw[List.countP_cons,List.countP_cons]
  by_cases hx:x=j
  .subst hx
   have:l.countP p=l.countP p':=List.countP_congr fun i hi=>by rw[ho i (fun e=>h1 (e▸hi))]
   rw[this,hp,hp'];simp
  .have hm':j∈l:=by
    rcases List.mem_cons.1 hm with h|h
    .exact absurd h.symm hx
    .exact h
   rw[cF3 h2 hm' hp hp' ho,ho x hx];omega
theorem unl_set{listed:Array Bool}{n j:Nat}(hj:j<n)(hs:listed.size=n)(hl:listed.getD j true=false):unl listed n=unl (listed.setIfInBounds j true) n+1:=by
 refine cF3 (j:=j) List.nodup_range (List.mem_range.2 hj) (by rw[hl];rfl) ?_ fun i hi=>by rw[getD_set_ne true (Ne.symm hi)]
 have:j<listed.size:=by omega
 simp[this]
end
end
section
section
variable {b0:Nat->Prop} {β:bB5} {ob:Obs} {w:World} {f:Nat->List Nat} {P:Program} {E:Env} {all:Array Oper}
theorem push_modify{α:Type}{xs:Array α}{x:α}{i:Nat}{g:α->α}(h:i<xs.size):(xs.push x).modify i g=(xs.modify i g).push x:=by
 apply Array.ext_getElem?
 intro k
 rw[Array.getElem?_modify,Array.getElem?_push,Array.getElem?_push,Array.getElem?_modify,Array.size_modify]
 by_cases hk:k=xs.size
 .subst hk
  have:¬i=xs.size:=by omega
  simp[this]
 .simp[hk]
theorem cHo{o:Obj}{a:Addr}{v:Value}(h:a.block<w.heap.size):(w.alloc o).setCell a v=(w.setCell a v).alloc o:=by
 simp only[World.alloc,World.setCell]
 rw[push_modify h]
def cBe:Value->Bool
 |.int _ _=>true
 |.bool _=>true
 |_=>false
theorem plain1_store{v:Value}(hv:cBe v=true){a:Addr}{w:World}:(store a v).run P w=stored P w a v .plain:=by
 cases v<;>first
  |(simp[cBe]at hv;done)
  |exact run_store_int ..
  |exact run_store_bool ..
theorem plain1_cells{v:Value}(hv:cBe v=true):v.cells = #[v]:=by
 cases v<;>first
  |(simp[cBe]at hv;done)
  |rfl
theorem storeAt_run{t:TypeId}{ad:Addr}{v:Value}(hv:cBe v=true){w:World}:(Instr.storeAt t (.pointer (some ad)) v).run P w=match P.info? t with
  | none => (Sem.run P (Go.stuck "no such type" : Sem Unit) w)
  | some i => if 1 ≠ i.size then (Sem.run P (Go.stuck "storeVar: the value has not the size of the variable" : Sem Unit) w) else stored P w ad v .plain := by
 have hc:=plain1_cells hv
 have hs:(storeCells ad [v]).run P w=stored P w ad v .plain:=by
  have h0:ad.add 0=ad:=rfl
  simp only[storeCells,Sem.run_bind,h0]
  rw[plain1_store hv]
  cases stored P w ad v .plain<;>rfl
 cases hi:P.info? t with
 |none=>simp[Instr.storeAt,storeVar,Instr.sureAddr,sizeOf,typeInfo,hi]
 |some i=>
  simp only[Instr.storeAt,storeVar,Instr.sureAddr,sizeOf,typeInfo,Sem.run_bind,Sem.run_pure,Result.andThen_ok,run_program,hi,hc]
  by_cases h1:(1:Nat)≠i.size
  .simp[h1]
  .have h2:¬(#[v]:Array Value).size≠i.size:=by simpa using h1
   rw[if_neg h2,if_neg h1]
   simpa using hs
theorem store_swap{t:TypeId}{ad:Addr}{v:Value}(hv:cBe v=true)(hsp:ad.spot=none){c:Array Value}{e:TypeId}{fr:Nat×Nat}(hh:w.heap[ad.block]?=some (.cells c e fr)){o:Obj}{w2:World}
  (h:(Instr.storeAt t (.pointer (some ad)) v).run P (w.alloc o) = .ok () w2):∃w3,(Instr.storeAt t (.pointer (some ad)) v).run P w = .ok () w3/\w2=w3.alloc o/\w3.heap.size=w.heap.size:=by
 have hlt:ad.block<w.heap.size:=by
  rcases Nat.lt_or_ge ad.block w.heap.size with h|h
  .exact h
  .rw[Array.getElem?_eq_none h]at hh;cases hh
 have hh1:(w.alloc o).heap[ad.block]?=some (.cells c e fr):=by
  show(w.heap.push o)[ad.block]?=_
  rw[Array.getElem?_push,if_neg (by omega)];exact hh
 rw[storeAt_run hv]at h ⊢
 cases hi:P.info? t with
 |none=>rw[hi]at h;cases h
 |some i=>
  rw[hi]at h
  simp only at h ⊢
  split at h
  .cases h
  .have hc1:(w.alloc o).cell? ad=c[ad.off]?:=by simp[World.cell?,hh1,hsp]
   have hc:w.cell? ad=c[ad.off]?:=by simp[World.cell?,hh,hsp]
   have hf:w.frozen? ad=(w.alloc o).frozen? ad:=by simp[World.frozen?,hh1,hh]
   rename_i hne
   unfold stored at h ⊢
   rw[hc1]at h
   rw[hc,hf]
   cases hx:c[ad.off]? with
   |none=>
    rw[hx]at h
    simp only[World.farStore,hh1]at h
    cases h
   |some y=>
    rw[hx]at h
    simp only at h ⊢
    cases hfz:(w.alloc o).frozen? ad with
    |true=>rw[hfz]at h;cases h
    |false=>
     rw[hfz]at h
     simp only[Bool.false_eq_true,if_false]at h ⊢
     rw[cHo hlt]at h
     refine⟨w.setCell ad v,by rw[if_neg hne],?_,by simp[World.setCell]⟩
     cases h;rfl
theorem make_run(hE:bQs P E){C:bCg}{sl:List AV}{a:Act}(hR:SR b0 β ob w sl a.tmps f){o:Oper}{t:TypeId}{n c:Operand}(ho:o.op = .makeSlice t n c){av:AV}(hk:bH7 E C ob (bCm sl) o some=some av):
  ∃N cells te,∀w':World,(execOp a.eval o).run P w' = .ok (.value (.slice (some ⟨w'.heap.size,0,none⟩) N N)) (w'.alloc (.cells cells te)):=by
 unfold bH7 at hk
 rw[ho]at hk
 simp only at hk
 split at hk
 .rename_i e he
  obtain⟨κ,m,hn,hk⟩:=bJr hk
  obtain⟨κ',m',hc,hk⟩:=bJr hk
  obtain⟨b1,h1,_,_⟩:=opnd hR n
  obtain⟨b2,h2,_,_⟩:=opnd hR c
  rw[hn]at h1
  rw[hc]at h2
  obtain⟨hv1,_⟩:=bDw h1
  obtain⟨hv2,_⟩:=bDw h2
  obtain⟨l,hl,hk1⟩:=bind_some hk
  by_cases heq:m=m'
  .subst heq
   obtain⟨te,hu,hte⟩:=(hE.ty _ _ (bHr he)).listU
   obtain⟨i,z,hi,hs,hb,hz,hzc,_⟩:=hte.info
   obtain⟨h0,h1',rfl⟩:=mkl_some hl
   refine⟨m.toNat,madeCells z.cells (m.toNat*i.size),te,fun w'=>?_⟩
   have hr:=run_make (P:=P) w' t te i z hu hi hz κ κ' m m h0 (Int.le_refl _) (by
    have:(i.bytes:Int)<=1024:=by omega
    have:(i.bytes:Int)*m<=1024*68719476736:=Int.mul_le_mul this h1' h0 (by omega)
    omega) (by omega)
   have:(execOp a.eval o)=(do pure (.value (<-Instr.makeSlice t (a.eval n) (a.eval c))):Sem Next):=by unfold execOp;rw[ho]
   rw[this,hv1,hv2,Sem.run_bind,hr]
   rfl
  .rw[if_neg heq]at hk1;cases hk1
 .cases hk
theorem swapOp_spec{ops:List Oper}{a o:Oper}(h:swapOp ops a o=true):a.guard=none/\(∃t n c,a.op = .makeSlice t n c)/\(∃d,a.dst=some d)/\o.guard=none/\o.dst=none /\
  ∃t p v,o.op = .store t (.tmp p) (.const v)/\cBe v=true/\∃(i:Nat) (q:Oper),ops[i]?=some q/\q.guard=none/\q.dst=some p/\∃t x fl,q.op = .fieldAddr t x fl:=by
 unfold swapOp at h
 split at h
 .rename_i t n c d t' p v hag hao had hog hoo hod
  simp only[Bool.and_eq_true]at h
  obtain⟨h1,h2⟩:=h
  refine⟨hag,⟨_,_,_,hao⟩,⟨_,had⟩,hog,hod,_,_,_,hoo,by cases v<;>simp_all [cBe],?_⟩
  rw[List.any_eq_true]at h2
  obtain⟨q,hq,h3⟩:=h2
  obtain⟨i,hi⟩:=List.getElem?_of_mem hq
  split at h3
  .rename_i x1 x2 x3 t2 e1 e2 e3
   have:=Nat.eq_of_beq_eq_true h3
   subst this
   exact⟨i,q,hi,e1,e3,_,_,_,e2⟩
  .cases h3
 .cases h
theorem cCe{b:List Nat}{n i j:Nat}(h:swapAt b n i j=true){q:Nat}(hq:q<n):(i<q->q<j->Nat.testBit (b.getD j 0) q=true)/\(j<q->Nat.testBit (b.getD q 0) i=true/\Nat.testBit (b.getD q 0) j=true):=by
 unfold swapAt at h
 have:=List.all_eq_true.1 h q (List.mem_range.2 hq)
 simp only[Bool.and_eq_true,Bool.or_eq_true]at this
 obtain⟨h1,h2⟩:=this
 constructor
 .intro hi hj
  rcases h1 with(h1|h1)|h1
  .have:=Nat.le_of_ble_eq_true h1;omega
  .have:=Nat.le_of_ble_eq_true h1;omega
  .exact h1
 .intro hj
  rcases h2 with h2|h2
  .have:=Nat.le_of_ble_eq_true h2;omega
  .exact h2
theorem fieldAddr_at{C:bCg}{sl:List AV}{o:Oper}{t:TypeId}{x:Operand}{fl:Nat}(ho:o.op = .fieldAddr t x fl){av:AV}(hk:bH7 E C ob (bCm sl) o some=some av):
  bFb av=false/\∀{bad:Nat->Prop} {u:Value} {bs:List Nat},ObR b0 β ob w bad->VR2 β ob w bad av u bs->∃ad,u = .pointer (some ad)/\ad.spot=none/\∃c e fr,w.heap[ad.block]?=some (.cells c e fr):=by
 unfold bH7 at hk
 rw[ho]at hk
 simp only[cF1]at hk
 unfold bYq at hk
 split at hk
 .split at hk
  .split at hk
   .cases hk
    refine⟨rfl,fun hO h=>?_⟩
    obtain⟨_,b,c,cs,hb,hkk,hv⟩:=h
    obtain⟨b',cells,elem,hb',hh,_⟩:=hO.box _ _ hkk
    rw[hb]at hb'
    cases hb'
    exact⟨_,hv,rfl,_,_,_,hh⟩
   .cases hk
    refine⟨rfl,fun hO h=>?_⟩
    obtain⟨_,τ,l,b,o',c,hkk,hb,hv⟩:=h
    rcases hO.row _ _ _ hkk with⟨h1,_⟩|⟨b',o2,c2,hb',hr⟩
    .rw[hb]at h1;cases h1
    .rw[hb]at hb'
     cases hb'
     obtain⟨cells,elem,hh,_⟩:=hr
     exact⟨_,hv,rfl,_,_,_,hh⟩
   .simp only at hk
    split at hk
    .rename_i σ _
     split at hk
     .cases hk
      refine⟨rfl,fun hO h=>?_⟩
      obtain⟨_,ad,cs,hv,hsp,_,he,hat⟩:=h
      have hl:=bGc he
      have hp:=σ.size_pos
      obtain⟨y,r,rfl⟩:∃y r,cs=y::r:=by
       cases cs with
       |nil=>simp at hl;omega
       |cons y r=>exact⟨y,r,rfl⟩
      have h0:=hat 0 y rfl
      refine⟨ad,hv,hsp,?_⟩
      unfold World.cell? at h0
      simp only at h0
      split at h0
      .rename_i c e fr hh;exact⟨c,e,fr,hh⟩
      .cases h0
     .cases hk
    .cases hk
   .cases hk
  .cases hk
 .cases hk
theorem set_swap{l:Array Bool}{i j:Nat}(h:i≠j):(l.setIfInBounds i true).setIfInBounds j true=(l.setIfInBounds j true).setIfInBounds i true:=by
 apply Array.ext_getElem?
 intro k
 simp only[Array.getElem?_setIfInBounds,Array.size_setIfInBounds]
 by_cases h1:j=k
 .subst h1;simp[h]
 .by_cases h2:i=k
  .subst h2;simp[h1]
  .simp[h1,h2]
end
end
section
section
variable {b0:Nat->Prop} {β:bB5} {ob:Obs} {w:World} {f:Nat->List Nat} {P:Program} {E:Env} {all:Array Oper}
theorem lightX_run(hA:bNb P E){C:bCg}{sl:List AV}{a:Act}(hR:SR b0 β ob w sl a.tmps f){o:Oper}(hl:cFv o=true){av:AV}(hk:bH7 E C ob (bCm sl) o some=some av):
  o.guard=none/\∃v,∀w',(execOp a.eval o).run P w' = .ok (.value v) w':=by
 unfold cFv at hl
 rw[Bool.or_eq_true]at hl
 rcases hl with hl|hl
 .exact light_run hA hR hl hk
 .split at hl
  .rename_i t hg ho
   refine⟨hg,?_⟩
   unfold bH7 at hk
   rw[ho]at hk
   simp only at hk
   have hs:=hR.slot t
   have hev:a.eval (.tmp t)=a.tmps.getD t undef:=by simp[Act.eval]
   have run:∀{ad:Addr},a.tmps.getD t undef = .pointer (some ad)->∃v,∀w',(execOp a.eval o).run P w' = .ok (.value v) w':=fun {ad} hv=>by
    refine⟨.pointer (some ad),fun w'=>?_⟩
    unfold execOp
    rw[ho]
    simp[hev,hv]
   rw[show sl.getD t .any=bCm sl (.tmp t) from rfl]at hs
   split at hk
   .rename_i hx;rw[hx]at hs;obtain⟨_,b,c,cs,_,_,hv⟩:=hs;exact run hv
   .rename_i hx;rw[hx]at hs;obtain⟨_,τ,l,b,c,_,_,_,hv⟩:=hs;exact run hv
   .rename_i hx;rw[hx]at hs;obtain⟨_,ad,cs,hv,_⟩:=hs;exact run hv
   .rename_i hx;rw[hx]at hs;obtain⟨_,τ,l,b,o,c,_,_,hv⟩:=hs;exact run hv
   .cases hk
  .rename_i t x fd hg ho
   refine⟨hg,?_⟩
   unfold bH7 at hk
   rw[ho]at hk
   simp only at hk
   have hs:=hR.slot x
   have hev:a.eval (.tmp x)=a.tmps.getD x undef:=by simp[Act.eval]
   rw[show sl.getD x .any=bCm sl (.tmp x) from rfl]at hs
   obtain⟨fields,fld,σ,hu,hf,hσ,hk⟩:=bY7 hA.env hk
   have run:∀{ad:Addr},a.tmps.getD x undef = .pointer (some ad)->∃v,∀w',(execOp a.eval o).run P w' = .ok (.value v) w':=fun {ad} hv=>by
    refine⟨.pointer (some (ad.add fld.offset)),fun w'=>?_⟩
    have hr:=bT8 (P:=P) (w:=w') hu hf hσ (a:=ad)
    unfold execOp
    rw[ho]
    simp[hev,hv,hr]
   split at hk
   .rename_i hx;rw[hx]at hs;obtain⟨_,b,c,cs,_,_,hv⟩:=hs;exact run hv
   .rename_i hx;rw[hx]at hs;obtain⟨_,τ,l,b,o,c,_,_,hv⟩:=hs;exact run hv
   .rename_i hx;rw[hx]at hs;obtain⟨_,ad,cs,hv,_⟩:=hs;exact run hv
   .cases hk
  .cases hl
theorem seqK_lightX{R:Type}{C:bCg}{o:Oper}(hl:cFv o=true){st:St}{k:St->Option R}:seqK E C o st k=bH7 E C st.ob (bCm st.sl) o fun v=>k (st.put o.dst v):=by
 have h:∀{op:Op},o.op=op->(∀t a x,op ≠ .store t a x)->(∀t n ps,op ≠ .buildSlice t n ps)->(∀c,op ≠ .call c)->seqK E C o st k=bH7 E C st.ob (bCm st.sl) o fun v=>k (st.put o.dst v):=by
  intro op ho h1 h2 h3
  unfold seqK
  split
  .rename_i t a x h;rw[ho]at h;exact absurd h (h1 t a x)
  .rename_i t m ps h;rw[ho]at h;exact absurd h (h2 t m ps)
  .rename_i c h;rw[ho]at h;exact absurd h (h3 c)
  .rfl
 unfold cFv bRo at hl
 rw[Bool.or_eq_true]at hl
 rcases hl with hl|hl
 .split at hl
  .rename_i ho;exact h ho (by simp) (by simp) (by simp)
  .rename_i ho;exact h ho (by simp) (by simp) (by simp)
  .rename_i ho;exact h ho (by simp) (by simp) (by simp)
  .cases hl
 .split at hl
  .rename_i ho;exact h ho (by simp) (by simp) (by simp)
  .rename_i ho;exact h ho (by simp) (by simp) (by simp)
  .cases hl
theorem cHc{s:List Sh}{np n:Nat}(hA:bNb P E)(hns:Region.noSelect all=true)(hdst:∀(i:Nat) o,all[i]?=some o->cBv np o=true)(hC:bJu P E (bHe E (runF E n))){k:List It}{r:dens s}:
  ∀(fuel:Nat) (listed:Array Bool) (β:bB5) (st:St) (a:Act) (w:World) (β0:bB5) (st0:St) (w0:World) (a0:Act),explore E (bHe E (runF E n)) all (runF E n s k) fuel listed st=some r->Rel b0 β st w a.tmps ->
  (∀b,Own β st.ob b->Own β0 st0.ob b\/w0.heap.size<=b)->Same (Own β0 st0.ob) w0 w->st.f=st0.f->Kept np a0 a ->
  wpAny P .any all (bPq E np b0 β0 st0 w0 a0 s k n r) fuel listed a w:=by
 intro fuel
 have leaf:∀{β:bB5} {st:St} {a:Act} {w:World} {β0:bB5} {st0:St} {w0:World} {a0:Act},runF E n s k st=some r->Rel b0 β st w a.tmps ->
   (∀b,Own β st.ob b->Own β0 st0.ob b\/w0.heap.size<=b)->Same (Own β0 st0.ob) w0 w->st.f=st0.f->Kept np a0 a->bPq E np b0 β0 st0 w0 a0 s k n r .normal a w:=
  fun {β st a w β0 st0 w0 a0} hr hS ho hs hf hd=>⟨st,n,Nat.le_refl _,hr,hf,hd,Goes.trans hS ho hs (Goes.refl hS)⟩
 induction fuel with
 |zero=>
  intro listed β st a w β0 st0 w0 a0 hr hS ho hs hf hd
  unfold explore at hr
  split at hr
  .rename_i hrd;exact wpAny_done hrd (leaf hr hS ho hs hf hd) 0
  .cases hr
 |succ fuel ih=>
  intro listed β st a w β0 st0 w0 a0 hr hS ho hs hf hd
  have next:∀{j:Nat} {oj:Oper} {st1:St} {v:Value} {w':World},all[j]?=some oj->explore E (bHe E (runF E n)) all (runF E n s k) fuel (listed.setIfInBounds j true) st1=some r->st1.f=st.f->Goes b0 β st st1 w w' (putT a.tmps oj.dst v) ->
    wpAny P .any all (bPq E np b0 β0 st0 w0 a0 s k n r) fuel (listed.setIfInBounds j true) (a.put oj.dst v) w':=by
   intro j oj st1 v w' hj h1 h2 hg
   obtain⟨⟨β1,g1,g2⟩,g3⟩:=hg
   refine ih _ β1 st1 (a.put oj.dst v) w' β0 st0 w0 a0 h1 (by rw[bQz];exact g1) (fun b hb=>?_) ?_ (h2.trans hf) (hd.put (hdst _ _ hj) v)
   .rcases g2 b hb with h|h
    .exact ho b h
    .exact .inr (Nat.le_trans hs.1 h)
   .exact hs.trans g3 fun b hlt hb=>(ho b hb).resolve_right (by omega)
  unfold explore at hr
  split at hr
  .rename_i hrd;exact wpAny_done hrd (leaf hr hS ho hs hf hd) _
  .rename_i j0 js hrd
   split at hr
   .-- one comes first
    rename_i i hfind
    have hmem:i∈Region.ready .any all listed:=by rw[hrd];exact List.mem_of_find?_eq_some hfind
    have hfree:=List.find?_some hfind
    obtain⟨hiun,oi,hiA,hipre⟩:=mem_ready.1 hmem
    rw[hiA]at hr
    simp only at hr
    unfold freeAt at hfree
    rw[hiA]at hfree
    simp only[Bool.and_eq_true]at hfree
    obtain⟨hlx,hap⟩:=hfree
    obtain⟨st1,h1,h2,h3⟩:=bT6 hA hC hS hr
    have hgn:oi.guard=none:=by
     unfold cFv bRo at hlx
     rw[Bool.or_eq_true]at hlx
     rcases hlx with h|h<;>split at h<;>first|assumption|cases h
    have hpk:∃av,bH7 E (bHe E (runF E n)) st.ob (bCm st.sl) oi some=some av:=by
     have hr':=hr
     unfold bS0 bZc at hr'
     rw[hgn]at hr'
     simp only[cond_true]at hr'
     rw[seqK_lightX hlx,cAw]at hr'
     obtain⟨av,h,_⟩:=bind_some hr'
     exact⟨av,h⟩
    obtain⟨av,hav⟩:=hpk
    obtain⟨_,v,hrun⟩:=lightX_run hA hS.sr hlx hav
    have hwt:Region.wanted oi (yielded all a.tmps)=true:=by simp[Region.wanted,hgn]
    have hgo:=h3 (fun a' w'=>wpAny P .any all (bPq E np b0 β0 st0 w0 a0 s k n r) fuel (listed.setIfInBounds i true) a' w') (bPq E np b0 β0 st0 w0 a0 s k n r) fun v w' hg=>next hiA h1 h2 hg
    rw[if_pos hwt]at hgo
    simp only[Oper.wp,hrun w,Oper.upon]at hgo
    refine wpAny_first hiA (Region.noSelect_spec hns) (fun c a w hp=>hp.elim) fuel listed a w (fun j oj hj hji hjun hno=>?_) hmem (.inl ⟨hwt,hrun⟩) hgo
    have hjlt:j<all.size:=(Array.getElem?_eq_some_iff.1 hj).1
    have:=List.all_eq_true.1 hap j (List.mem_range.2 hjlt)
    rw[hj,hjun]at this
    simp only[Bool.or_eq_true,Bool.false_eq_true,or_false]at this
    rcases this with h|h|h
    .exact absurd (Nat.eq_of_beq_eq_true h) hji
    .obtain⟨e,he,hb⟩:=Array.any_eq_true'.1 h
     simp only[Bool.and_eq_true]at hb
     exact absurd (Nat.eq_of_beq_eq_true hb.2) (hno e he hb.1)
    .exact h
   .-- all of them
    obtain⟨_,hall⟩:=multi_all hr
    refine⟨fun h=>(by rw[h]at hrd;cases hrd),fun j hj=>?_⟩
    obtain⟨hjun,oj,hjA,_⟩:=mem_ready.1 hj
    rw[hrd]at hj
    have hrj:=hall _ (List.mem_map_of_mem hj)
    rw[hjA]at hrj
    simp only at hrj
    obtain⟨st1,h1,h2,h3⟩:=bT6 hA hC hS hrj
    have hgo:=h3 (wpAny P .any all (bPq E np b0 β0 st0 w0 a0 s k n r) fuel (listed.setIfInBounds j true)) (bPq E np b0 β0 st0 w0 a0 s k n r) fun v w' hg=>next hjA h1 h2 hg
    unfold wpOp
    rw[hjA]
    dsimp only
    split
    .rename_i hw;rw[if_pos hw]at hgo;exact .inl hgo
    .rename_i hw;rw[if_neg hw]at hgo;exact hgo
theorem each_sound(hA:bNb P E)(hP:P.follows .mixedOrders=true):EachOk P E:=by
 intro np s ops k r id n st a w b0 β hns hdst hr hC hS
 refine wp_region_any hP ?_
 have hdrew:Same (fun _=>False) w { w with drawn:=w.drawn+1 }:=Same.drew _ w
 exact cHc hA hns hdst hC ops.size _ β st a { w with drawn:=w.drawn+1 } β st w a hr ⟨hS.sr.world hdrew fun _ _ h=>h.elim,hS.nn⟩ (fun b hb=>.inl hb) (hdrew.mono fun _ _ h=>h.elim) rfl (Kept.refl _ _)
end
end
section
section
variable {b0:Nat->Prop} {β:bB5} {ob:Obs} {P:Program} {E:Env} {all:Array Oper} {L:List Oper} {avs sl0:List AV}
theorem unl_eq{listed:Array Bool}{i:Nat}:∀{n:Nat},i<=n->(∀q,q<n->listed.getD q true=decide (q<i))->unl listed n=n-i
 |0,hi,h=>by unfold unl;simp
 |n+1,hi,h=>by
  unfold unl
  rw[List.range_succ,List.countP_append]
  have hlast:=h n (by omega)
  by_cases hin:i<=n
  .have:=unl_eq (listed:=listed) hin (fun q hq=>h q (by omega))
   unfold unl at this
   rw[this]
   have h2:listed.getD n true=false:=by rw[hlast];simp;omega
   simp only[List.countP_singleton,h2,Bool.not_false,if_true]
   omega
  .have hi':i=n+1:=by omega
   subst hi'
   have:(List.range n).countP (fun i=>!listed.getD i true)=0:=by
    rw[List.countP_eq_zero]
    intro q hq
    have hq':=List.mem_range.1 hq
    have h3:listed.getD q true=true:=by rw[h q (by omega)];simp;omega
    simp only[h3];simp
   rw[this]
   have h2:listed.getD n true=true:=by rw[hlast];simp
   simp only[List.countP_singleton,h2];simp
theorem cGz{listed:Array Bool}{j:Nat}(hj:j<listed.size):More (fun q=>listed.getD q false) (fun q=>(listed.setIfInBounds j true).getD q false) j where
 new:=by simp[hj]
 old:=fun i hi=>by exact getD_set_ne false (Ne.symm hi)
theorem cF5{listed:Array Bool}{j:Nat}{o:Oper}(hj:all.toList[j]?=some o)(hr:∀e∈o.after,Region.binds .any e=true->listed.getD e.on false=true)(h:bHo all (fun q=>listed.getD q false)):bHo all (fun q=>(listed.setIfInBounds j true).getD q false):=by
 intro i oi hi hs e he hb
 by_cases hij:i=j
 .subst hij
  rw[hj]at hi
  cases hi
  exact getD_set_true (hr e he hb)
 .have hs':listed.getD i false=true:=by
   have:=getD_set_ne (listed:=listed) false (Ne.symm hij)
   dsimp only at hs
   rw[this]at hs;exact hs
  exact getD_set_true (h i oi hi hs' e he hb)
theorem first_any{m np:Nat}{w0:World}{a0:Act}(hA:bNb P E)(h:Ctx P E all L avs sl0 ob)(hc:CutP all m)(hdst:∀(i:Nat) o,all[i]?=some o->cBv np o=true)(hL:L=all.toList.take m){Q:Exit->Act->World->Prop}(hQ:∀c a w,¬Q (.panic c) a w)(hQo:∀a w,¬Q .outgrown a w)
  (hsw:∀(fuel:Nat) (listed:Array Bool) (a:Act) (w:World),listed.size=all.size->(∀q,q<all.size->listed.getD q true=decide (q<L.length))->unl listed all.size<=fuel->Mid b0 β ob w0 L avs sl0 (fun q=>listed.getD q false) w a.tmps->Kept np a0 a->wpAny P .any all Q fuel listed a w) :
  ∀(fuel:Nat) (listed:Array Bool) (a:Act) (w:World),listed.size=all.size->unl listed all.size<=fuel->bHo all (fun q=>listed.getD q false)->(∀q,L.length<=q->q<all.size->listed.getD q true=false) ->
   Mid b0 β ob w0 L avs sl0 (fun q=>listed.getD q false) w a.tmps->Kept np a0 a->wpAny P .any all Q fuel listed a w:=by
 intro fuel
 induction fuel with
 |zero=>
  intro listed a w hsz hu hcl hlate hM hd
  refine hsw 0 listed a w hsz (fun q hq=>?_) hu hM hd
  unfold unl at hu
  have:=List.countP_eq_zero.1 (Nat.le_zero.1 hu) q (List.mem_range.2 hq)
  have ht:listed.getD q true=true:=by simpa using this
  rw[ht]
  rcases Nat.lt_or_ge q L.length with h'|h'
  .simp[h']
  .have:=hlate q h' hq;rw[ht]at this;cases this
 |succ fuel ih=>
  intro listed a w hsz hu hcl hlate hM hd
  have hLlen:L.length<=all.size:=by rw[hL];simp;omega
  have hft:∀{q},q<all.size->listed.getD q false=listed.getD q true:=by
   intro q hq
   have:q<listed.size:=by omega
   simp[this]
  rcases least (fun q=>listed.getD q false) L.length with hall|⟨i,hi,hin,hmin⟩
  .refine hsw (fuel+1) listed a w hsz (fun q hq=>?_) hu hM hd
   rcases Nat.lt_or_ge q L.length with h'|h'
   .have:=hall q h'
    rw[<-hft hq,this];simp[h']
   .rw[hlate q h' hq];simp;omega
  .have hLi:=List.getElem?_eq_getElem hi
   generalize L[i]=oi at hLi
   have hiL:=h.at hLi
   have hiA:all[i]?=some oi:=by simpa using hiL
   have hilt:i<all.size:=by omega
   have hpre:∀e∈oi.after,Region.binds .any e=true->listed.getD e.on false=true:=fun e he hb=>hmin e.on (hc.edge i oi hiL e he hb)
   have hunl:listed.getD i true=false:=by rw[<-hft hilt];exact hin
   have hready:i∈Region.ready .any all listed:=mem_ready.2 ⟨hunl,oi,hiA,hpre⟩
   -- one of the first is done
   have next:∀{j:Nat} {oj:Oper} {a':Act} {w':World},L[j]?=some oj->listed.getD j true=false->(∀e∈oj.after,Region.binds .any e=true->listed.getD e.on false=true) ->
     Mid b0 β ob w0 L avs sl0 (fun q=>(listed.setIfInBounds j true).getD q false) w' a'.tmps->Kept np a a'->wpAny P .any all Q fuel (listed.setIfInBounds j true) a' w':=by
    intro j oj a' w' hj hjun hr hM' hd'
    have hjl:j<L.length:=(List.getElem?_eq_some_iff.1 hj).1
    refine ih (listed.setIfInBounds j true) a' w' (by simpa using hsz) ?_ (cF5 (h.at hj) hr hcl) (fun q hq hqs=>?_) hM' (hd.trans hd')
    .have:=unl_set (n:=all.size) (show j<all.size by omega) hsz hjun
     omega
    .rw[getD_set_ne true (by omega)];exact hlate q hq hqs
   cases hli:bRo oi with
   |true=>
    have hM':=hM
    obtain⟨f,hR,_,_⟩:=hM'
    obtain⟨b,hwb,hst⟩:=h.step i oi hLi
    have hgn:oi.guard=none:=by
     unfold bRo at hli
     split at hli<;>first|assumption|cases hli
    have hb:b=true:=by unfold cBs at hwb;rw[hgn]at hwb;cases hwb;rfl
    subst hb
    simp only[if_true]at hst
    obtain⟨C,hC,hk,_,_,_⟩:=hst
    have hk':=h.value hcl hLi hin hpre hk
    obtain⟨_,v,hrun⟩:=light_run hA hR hli hk'
    have hwt:Region.wanted oi (yielded all a.tmps)=true:=by simp[Region.wanted,hgn]
    have hop:=hM.op hA h hcl (cGz (show i<listed.size by omega)) hLi hin hpre
    rw[if_pos hwt]at hop
    have hmid:=hop (fun a' w'=>Mid b0 β ob w0 L avs sl0 (fun q=>(listed.setIfInBounds i true).getD q false) w' a'.tmps) Q fun v w' hv=>by rw[bQz];exact hv
    simp only[Oper.wp,hrun w,Oper.upon]at hmid
    refine wpAny_first hiA (Region.noSelect_spec hc.nosel) (fun c a w hp=>absurd hp (hQ _ _ _)) fuel listed a w (fun j oj hj hji hjun hno=>?_) hready (.inl ⟨hwt,hrun⟩) (next hLi hunl hpre hmid ((Kept.refl np a).put (hdst _ _ hiA) v))
    have hjL:all.toList[j]?=some oj:=by simpa using hj
    have him:i<m:=by rw[hL]at hi;simp at hi;omega
    rcases hc.light j i oj oi hjL hiL him hli hji with h1|⟨e,he,hb,heq⟩|h1
    .have:=bMf (S:=fun q=>listed.getD q false=true) hc.edge (fun j' o' hj' hs'=>hcl j' o' hj' hs') i j oi hiL hpre h1
     have hjlt:j<all.size:=(Array.getElem?_eq_some_iff.1 hj).1
     rw[hft hjlt,hjun]at this;cases this
    .exact absurd heq (hno e he hb)
    .exact h1
   |false=>
    refine⟨fun h0=>(by rw[h0]at hready;cases hready),fun j hj=>?_⟩
    obtain⟨hjun,oj,hj2,hj3⟩:=mem_ready.1 hj
    have hjlt:j<all.size:=(Array.getElem?_eq_some_iff.1 hj2).1
    have hjL:all.toList[j]?=some oj:=by simpa using hj2
    by_cases hjl:j<L.length
    case neg=>
     have hjm:m<=j:=by
      rw[hL]at hjl;simp at hjl;omega
     rcases hc.late i j oi oj hiL hjL hjm (by omega) with h1|⟨_,h1⟩|⟨hjm',him,hsw1,hsw2⟩
     .exfalso
      have:=bMf (S:=fun q=>listed.getD q false=true) hc.edge (fun j' o' hj' hs'=>hcl j' o' hj' hs') j i oj hjL hj3 h1
      rw[hin]at this;cases this
     .rw[hli]at h1;cases h1
     .subst hjm'
      have hLm:L.length=j:=by rw[hL];simp;omega
      obtain⟨hgi,⟨ti,ni,ci,hoi⟩,⟨di,hdi⟩,hgj,hdj,tj,p,v,hoj,hplain,iq,oq,hq0,hgq,hdq,tq,xq,fq,hoq⟩:=swapOp_spec hsw1
      have hiq:iq<j:=by
       have:=(List.getElem?_eq_some_iff.1 hq0).1
       simp at this;omega
      have hLq:L[iq]?=some oq:=by rw[hL];exact hq0
      have hne:iq≠i:=fun e=>by
       subst e
       rw[hLi]at hLq
       cases hLq
       rw[hoi]at hoq;cases hoq
      have hrest:∀q,q<j->q≠i->listed.getD q false=true:=fun q hq hqi=>by
       rcases Nat.lt_or_ge q i with h'|h'
       .exact hmin q h'
       .exact bMf (S:=fun q=>listed.getD q false=true) hc.edge (fun j' o' hj' hs'=>hcl j' o' hj' hs') j q oj hjL hj3 ((cCe hsw2 (q:=q) (by omega)).1 (by omega) hq)
      -- the slice
      have hM':=hM
      obtain⟨f,hR,_,_⟩:=hM'
      obtain⟨b,hwb,hst⟩:=h.step i oi hLi
      have hb:b=true:=by unfold cBs at hwb;rw[hgi]at hwb;cases hwb;rfl
      subst hb
      simp only[if_true]at hst
      obtain⟨C,hC,hk,_,_,_⟩:=hst
      have hk':=h.value hcl hLi hin hpre hk
      obtain⟨N,cells,te,hrun⟩:=make_run hA.env hR hoi hk'
      have hwt:Region.wanted oi (yielded all a.tmps)=true:=by simp[Region.wanted,hgi]
      have hop:=hM.op hA h hcl (cGz (show i<listed.size by omega)) hLi hin hpre
      rw[if_pos hwt]at hop
      have hmid:=hop (fun a' w'=>Mid b0 β ob w0 L avs sl0 (fun q=>(listed.setIfInBounds i true).getD q false) w' a'.tmps) Q fun v w' hv=>by rw[bQz];exact hv
      simp only[Oper.wp,hrun w,Oper.upon]at hmid
      have hu1:=unl_set (n:=all.size) hilt hsz hunl
      have hij:i≠j:=by omega
      have hjrdy:j∈Region.ready .any all (listed.setIfInBounds i true):=ready_mono hj (Ne.symm hij)
      have H:=hsw fuel (listed.setIfInBounds i true) _ _ (by simpa using hsz) (fun q hq=>by
       by_cases hqi:i=q
       .subst hqi
        have:i<listed.size:=by omega
        simp[this,hi]
       .rw[getD_set_ne true hqi]
        rcases Nat.lt_or_ge q j with h'|h'
        .rw[<-hft hq,hrest q h' (Ne.symm hqi)];simp[hLm,h']
        .rw[hlate q (by omega) hq];simp;omega) (by omega) hmid (hd.trans ((Kept.refl np a).put (hdst _ _ hiA) _))
      cases fuel with
      |zero=>exfalso;rw[H.1]at hjrdy;cases hjrdy
      |succ fuel=>
       have H2:=H.2 j hjrdy
       unfold wpOp at H2 ⊢
       rw[hj2]at H2 ⊢
       dsimp only at H2 ⊢
       have hwtj:∀tm,Region.wanted oj tm=true:=fun tm=>by simp[Region.wanted,hgj]
       rw[if_pos (hwtj _)]at H2 ⊢
       have H3:=H2.resolve_right fun⟨_,a1,w1,h1⟩=>hQo a1 w1 h1
       -- where the store leads
       obtain⟨bq,hwq,hstq⟩:=h.step iq oq hLq
       have hbq:bq=true:=by unfold cBs at hwq;rw[hgq]at hwq;cases hwq;rfl
       subst hbq
       simp only[if_true]at hstq
       obtain⟨Cq,_,hkq,_,_,_⟩:=hstq
       obtain⟨hnq,hat⟩:=fieldAddr_at (b0:=b0) (β:=β) (w:=w) hoq hkq
       have hpi:p≠di:=fun e=>hne (h.uniq iq i oq oi p hLq hLi hdq (e▸hdi))
       have hps:p<sl0.length->(semL L avs sl0 fun q=>listed.getD q false).getD p .any=avs.getD iq .any:=fun hlt=>by
        rw[bKf,if_pos hlt]
        unfold semV
        rw[wr_some h.uniq hLq hdq]
        simp only[hrest iq hiq hne,cond_true]
        unfold clrN
        rw[hnq];rfl
       have hevp:∀(a':Act),a'.eval (.tmp p)=a'.tmps.getD p undef:=fun a'=>by simp[Act.eval]
       have hev1:(a.put oi.dst (.slice (some ⟨w.heap.size,0,none⟩) N N)).eval (.tmp p)=a.eval (.tmp p):=by
        rw[hevp,hevp,bQz,hdi]
        simp only[putT]
        simp[Array.getElem?_setIfInBounds_ne (Ne.symm hpi)]
       have hexec:∀a':Act,(execOp a'.eval oj)=(do Instr.storeAt tj (a'.eval (.tmp p)) v;pure .skip:Sem Next):=fun a'=>by
        unfold execOp;rw[hoj];rfl
       obtain⟨ad,hadv,hsp,cc,ee,ff,hheap⟩:∃ad,a.eval (.tmp p) = .pointer (some ad)/\ad.spot=none/\∃c e fr,w.heap[ad.block]?=some (.cells c e fr):=by
        by_cases hlt:p<sl0.length
        .have hsl:=hR.slot p
         rw[hps hlt]at hsl
         rw[hevp]
         exact hat hR.obs hsl
        .exfalso
         have hun:a.eval (.tmp p)=undef:=by
          rw[hevp]
          have:=hR.size
          rw[bMa]at this
          have hle:a.tmps.size<=p:=this▸Nat.le_of_not_lt hlt
          simp[Array.getElem?_eq_none hle]
         simp only[Oper.wp,hexec,hev1,hun]at H3
         simp[Instr.storeAt,Instr.sureAddr,undef,Go.stuck,Oper.upon]at H3
       simp only[Oper.wp,hexec,hev1,hadv]at H3
       rw[Sem.run_bind]at H3
       cases hr1:(Instr.storeAt tj (.pointer (some ad)) v).run P (w.alloc (.cells cells te)) with
       |ok u w2=>
        rw[hr1]at H3
        simp only[Result.andThen_ok,Sem.run_pure,Oper.upon,hdj]at H3
        obtain⟨w3,e1,e2,e3⟩:=store_swap hplain hsp hheap hr1
        subst e2
        left
        simp only[Oper.wp,hexec,hadv,Sem.run_bind,e1,Result.andThen_ok,Sem.run_pure,Oper.upon,hdj]
        have hcl2:=cF5 hjL hj3 hcl
        have hin2:(listed.setIfInBounds j true).getD i false=false:=by rw[getD_set_ne false (Ne.symm hij)];exact hin
        have hir2:i∈Region.ready .any all (listed.setIfInBounds j true):=ready_mono hready hij
        refine⟨fun h0=>(by rw[h0]at hir2;cases hir2),fun j2 hj2r=>?_⟩
        obtain⟨g1,o2,g2,g3⟩:=mem_ready.1 hj2r
        have hj2lt:j2<all.size:=(Array.getElem?_eq_some_iff.1 g2).1
        have hj2i:j2=i:=by
         by_cases hj2j:j=j2
         .subst hj2j
          have:j<listed.size:=by omega
          simp[this]at g1
         .rw[getD_set_ne true hj2j]at g1
          rcases Nat.lt_or_ge j2 j with h'|h'
          .by_cases hx:j2=i
           .exact hx
           .have:=hrest j2 h' hx
            rw[hft hj2lt,g1]at this;cases this
          .exfalso
           have hb:=((cCe hsw2 hj2lt).2 (by omega)).1
           have:=bMf (S:=fun q=>(listed.setIfInBounds j true).getD q false=true) hc.edge (fun j' o' hj' hs'=>hcl2 j' o' hj' hs') j2 i o2 (by simpa using g2) g3 hb
           rw[hin2]at this;cases this
        subst hj2i
        unfold wpOp
        rw[hiA]
        dsimp only
        have hwt2:∀tm,Region.wanted oi tm=true:=fun tm=>by simp[Region.wanted,hgi]
        rw[if_pos (hwt2 _)]
        left
        have hap:(a.put none undef)=a:=rfl
        simp only[Oper.wp,hap,hrun w3,Oper.upon,e3]
        rw[<-set_swap hij]
        exact H3
       |halt hh ww=>
        exfalso
        rw[hr1]at H3
        simp only[Result.andThen,Oper.upon]at H3
        cases hh<;>first
         |exact hQ _ _ _ H3
         |exact H3
    have hLj:L[j]?=some oj:=by
     rw[hL]at hjl ⊢
     rw[List.getElem?_take,if_pos (by simp at hjl;omega)];exact hjL
    have hjf:listed.getD j false=false:=by rw[hft hjlt];exact hjun
    have hop:=hM.op hA h hcl (cGz (show j<listed.size by omega)) hLj hjf hj3
    unfold wpOp
    rw[hj2]
    dsimp only
    split
    .rename_i hw
     rw[if_pos hw]at hop
     exact .inl (hop _ Q fun v w' hv=>next hLj hjun hj3 (by rw[bQz];exact hv) ((Kept.refl np a).put (hdst _ _ hj2) v))
    .rename_i hw
     rw[if_neg hw]at hop
     exact next hLj hjun hj3 (by rw[bQz];exact hop) ((Kept.refl np a).put (hdst _ _ hj2) undef)
theorem draw_sound(hA:bNb P E)(hP:P.follows .mixedOrders=true):DrawOk P E:=by
 intro np s ops m k r id n st a w b0 β hcut hdst hr hC hS
 have hc:=cutP hcut
 refine wp_region_any hP ?_
 obtain⟨avs,n',hn',hlen,hr',hstep⟩:=trace (P:=P) (f0:=st.f) (ob:=st.ob) (ops.toList.take m) n st.sl hC hr
 have hctx:Ctx P E ops (ops.toList.take m) avs st.sl st.ob:=⟨⟨m,rfl⟩,hlen.symm,(uniq_of hc.uniq).take m,hstep,hc.edge,hc.ord,hS.nn⟩
 have hdrew:Same (fun _=>False) w { w with drawn:=w.drawn+1 }:=Same.drew _ w
 have hS0:SR b0 β st.ob { w with drawn:=w.drawn+1 } st.sl a.tmps F0:=hS.sr.world hdrew fun _ _ h=>h.elim
 have hsem0:semL (ops.toList.take m) avs st.sl (fun q=>(Array.replicate ops.size false).getD q false)=st.sl:=by
  apply List.ext_getElem?
  intro t
  have hg:=@bKf (ops.toList.take m) avs st.sl (fun q=>(Array.replicate ops.size false).getD q false) t
  by_cases ht:t<st.sl.length
  .rw[if_pos ht]at hg
   have hv:semV (ops.toList.take m) avs st.sl (fun q=>(Array.replicate ops.size false).getD q false) t=st.sl.getD t .any:=by
    unfold semV
    split
    .rename_i i _
     have:(Array.replicate ops.size false).getD i false=false:=by
      by_cases hi:i<ops.size<;>simp[hi]
     simp only[this,cond_false]
    .rfl
   rw[hv]at hg
   have hl:t<(semL (ops.toList.take m) avs st.sl (fun q=>(Array.replicate ops.size false).getD q false)).length:=by rw[bMa];exact ht
   rw[List.getElem?_eq_getElem hl,List.getElem?_eq_getElem ht]
   simp only[List.getD,List.getElem?_eq_getElem hl,List.getElem?_eq_getElem ht,Option.getD_some]at hg
   rw[hg]
  .rw[List.getElem?_eq_none (by rw[bMa];omega),List.getElem?_eq_none (by omega)]
 have hfull:(((ops.toList.take m).zip avs).foldl putL st.sl)=bQ7 (ops.toList.take m) avs st.sl (ops.toList.take m).length:=by
  unfold bQ7
  have hz:((ops.toList.take m).zip avs).length<=(ops.toList.take m).length:=by rw[List.length_zip];omega
  rw[List.take_of_length_le hz]
 refine first_any (w0:={ w with drawn:=w.drawn+1 }) (a0:=a) hA hctx hc hdst rfl (fun c a w h=>h) (fun a w h=>h) (fun fuel listed a' w' hsz hli hun hM hd=>?_) ops.size _ a _ (by simp) ?_ (fun j o hj hs=>?_) (fun q _ hq=>by simp[hq]) ⟨F0,by rw[hsem0];exact hS0,(fun i b hb=>by cases hb),Same.refl _ _⟩ (Kept.refl _ _)
 .-- the later ones
  obtain⟨f,hR,hf,hsame⟩:=hM
  have hsz2:=hR.size
  have hLl:(ops.toList.take m).length<=ops.size:=by simp;omega
  have hSt:∀i,i<(ops.toList.take m).length->listed.getD i false=true:=fun i hi=>by
   have h1:=hli i (by omega)
   have:i<listed.size:=by omega
   have h2:listed.getD i false=listed.getD i true:=by simp[this]
   rw[h2,h1];exact decide_eq_true hi
  have hslots:∀t,(semL (ops.toList.take m) avs st.sl fun q=>listed.getD q false).getD t .any=(((ops.toList.take m).zip avs).foldl putL st.sl).getD t .any\/∃l:List Oper,(∀o∈l,o∈ops.toList.take m)/\bFb ((((ops.toList.take m).zip avs).foldl putL st.sl).getD t .any)=true/\(semL (ops.toList.take m) avs st.sl fun q=>listed.getD q false).getD t .any=clr l t ((((ops.toList.take m).zip avs).foldl putL st.sl).getD t .any):=by
   intro t
   rw[bKf]
   rw[hfull]
   by_cases ht:t<st.sl.length
   .rw[if_pos ht,bZg hctx.uniq hctx.len t ht _ (Nat.le_refl _)]
    unfold semV
    cases hw:wr (ops.toList.take m) t with
    |none=>exact .inl rfl
    |some i=>
     obtain⟨oi,h1,h2⟩:=bV1 hw
     have hil:=(List.getElem?_eq_some_iff.1 h1).1
     simp only
     rw[hSt i hil,if_pos hil]
     simp only[cond_true]
     unfold clrN
     cases hh:bFb (avs.getD i .any) with
     |false=>exact .inl rfl
     |true=>
      right
      exact⟨bDh (ops.toList.take m) (fun q=>listed.getD q false) i,fun o ho=>by
       obtain⟨j,h3,_⟩:=bW5.1 ho
       exact List.mem_of_getElem? h3,rfl,rfl⟩
   .rw[if_neg ht]
    left
    rw[List.getD,List.getElem?_eq_none (show(bQ7 (ops.toList.take m) avs st.sl (ops.toList.take m).length).length<=t by rw[bWg];omega)];rfl
  have hnews:∀t,bFb ((((ops.toList.take m).zip avs).foldl putL st.sl).getD t .any)=true->∃o∈ops.toList.take m,o.dst=some t:=by
   intro t ht
   rw[hfull]at ht
   by_cases hlt:t<st.sl.length
   .rw[bZg hctx.uniq hctx.len t hlt _ (Nat.le_refl _)]at ht
    cases hw:wr (ops.toList.take m) t with
    |none=>rw[hw]at ht;simp only at ht;rw[hS.nn t]at ht;cases ht
    |some i=>
     obtain⟨oi,h1,h2⟩:=bV1 hw
     exact⟨oi,List.mem_of_getElem? h1,h2⟩
   .have:(bQ7 (ops.toList.take m) avs st.sl (ops.toList.take m).length).getD t .any = .any:=by rw[List.getD,List.getElem?_eq_none (show(bQ7 (ops.toList.take m) avs st.sl (ops.toList.take m).length).length<=t by rw[bWg];omega)];rfl
    rw[this]at ht;cases ht
  obtain⟨β',hRel,hfs,hown⟩:=bSa (L:=ops.toList.take m) (w0:={ w with drawn:=w.drawn+1 }) (β0:=β) (ob0:=st.ob) (ops.toList.take m) { f:=st.f,sl:=((ops.toList.take m).zip avs).foldl putL st.sl,ob:=st.ob } _ f β hR (by rw[bMa,hfull];simp only;rw[bWg])
   (by
    have:=hc.uniq
    refine(List.Sublist.filterMap _ (List.take_sublist m ops.toList)).nodup this) (fun o ho=>ho) hslots hnews hf (fun b hb=>.inl hb)
  have hi2:(ops.toList.drop m)=(ops.toList.drop (ops.toList.take m).length):=by
   rw[List.length_take]
   rcases Nat.le_total m ops.toList.length with h'|h'
   .rw[Nat.min_eq_left h']
   .rw[Nat.min_eq_right h',List.drop_of_length_le h',List.drop_of_length_le (Nat.le_refl _)]
  have hunl:=unl_eq hLl hli
  have hsameO:Same (Own β st.ob) w w':=(hdrew.trans hsame fun _ _ h=>h).mono fun _ _ h=>h.elim
  refine ops_any (m:=m) hA hc hdst (ops.toList.drop m) (ops.toList.take m).length n' β' _ a' w' β st w a n fuel listed hi2.symm ?_ hsz hli ?_ hr' hn' hC hRel (fun b hb=>hown b hb) hsameO hfs hd
  .rw[List.length_take]
   rcases Nat.le_total m ops.toList.length with h'|h'
   .left;omega
   .right;rw[Nat.min_eq_right h'];simp
  .rw[List.length_drop]
   rw[List.length_take]at hunl
   simp only[Array.length_toList]at hunl ⊢
   omega
 .have:=unl_eq (listed:=Array.replicate ops.size false) (i:=0) (n:=ops.size) (by omega) (fun q hq=>by simp[hq])
  omega
 .have:(Array.replicate ops.size false).getD j false=false:=by
   by_cases hi:j<ops.size<;>simp[hi]
  dsimp only at hs
  rw[this]at hs;cases hs
end
end
section
section
variable {b0:Nat->Prop} {β:bB5} {ob:Obs} {w:World}
theorem dataK_nil{ow:Bool}{R:Type}:∀{τ:Ty} {k:τ.den->List AV->Option R} {r:R},bGg ob ow τ [] k=some r->False
 |.pair a b,k,r,h=>by simp only[bGg]at h;exact dataK_nil (τ:=a) h
 |.list e,k,r,h=>by simp[bGg]at h
 |.int _,k,r,h=>by simp[bGg]at h
 |.bool,k,r,h=>by simp[bGg]at h
theorem shK_nil{R:Type}:∀{s:Sh} {ob:Obs} {k:s.den->List AV->Obs->Option R} {r:R},shK ob s [] k=some r->False
 |.d τ,ob,k,r,h=>dataK_nil (by simpa only[shK]using h)
 |.own τ,ob,k,r,h=>by simp[shK]at h
 |.agg a b,ob,k,r,h=>by simp only[shK]at h;exact shK_nil (s:=a) h
theorem ShR.len{bad:Nat->Prop}:∀{s:Sh} {x:s.den} {vs:List Value} {bs:List Nat},ShR w bad s x vs bs->0<vs.length/\((∃a b,s = .agg a b)\/(∃a b,s = .d (.pair a b))->2<=vs.length)
 |.d τ,x,vs,bs,h=>by
  obtain⟨_,he⟩:=h
  have:=bGc he
  have hp:=τ.size_pos
  refine⟨by omega,?_⟩
  rintro(⟨a,b,h⟩|⟨a,b,h⟩)
  .cases h
  .cases h
   have:=a.size_pos;have:=b.size_pos
   simp only[Ty.size]at *;omega
 |.own τ,l,vs,bs,h=>by
  obtain⟨v,rfl,_⟩:=h
  refine⟨by simp,?_⟩
  rintro(⟨a,b,h⟩|⟨a,b,h⟩)<;>cases h
 |.agg a b,x,vs,bs,h=>by
  obtain⟨v1,v2,b1,b2,rfl,rfl,h1,h2⟩:=h
  have:=(ShR.len h1).1;have:=(ShR.len h2).1
  simp only[List.length_append]
  exact⟨by omega,fun _=>by omega⟩
theorem two_cells{bad:Nat->Prop}{a:AV}{v:Value}{bs:List Nat}(h:VR2 β ob w bad a v bs)(hne:cellsOf a≠[])(h2:2<=v.cells.toList.length):v = .agg v.cells:=by
 have hl:=(bM9 h hne).len
 cases a with
 |agg cs=>obtain⟨vs,rfl,_⟩:=h;simp[Value.cells]
 |d τ x=>
  obtain⟨_,cs,hv,he⟩:=h
  cases τ with
  |pair a b=>simp only[Vrep]at hv;subst hv;simp[Value.cells]
  |_=>exfalso;simp only[cellsOf,bSw,List.length_singleton]at hl;omega
 |any=>simp[cellsOf]at hne
 |arr n τ l=>simp[cellsOf]at hne
 |tup vs=>simp[cellsOf]at hne
 |_=>exfalso;simp only[cellsOf,List.length_singleton]at hl;omega
theorem shV{R:Type}{ob0:Obs}{av:Nat->Prop}(hO:ObR b0 β ob0 w av){s:Sh}{ob:Obs}(hp:Part ob ob0){a:AV}{k:s.den->Obs->Option R}{K:s.den->List AV->Obs->Option R}(hK:∀x rest ob' z,K x rest ob'=some z->rest=[]/\k x ob'=some z){r:R}{u:Value}(hk:shK ob s (cAc s a) K=some r)
  (h:VR2 β ob0 w av a u []):∃x ob' rk ok bs,k x ob'=some r/\Took β ob0 ob ob' rk ok bs/\∀bad',Calm β ob0 w av rk bad'->VR1 noβ [] w bad' (bVz s x) u bs:=by
 have many:cAc s a=cellsOf a->((∃a b,s = .agg a b)\/(∃a b,s = .d (.pair a b)))->∃x ob' rk ok bs,k x ob'=some r/\Took β ob0 ob ob' rk ok bs/\∀bad',Calm β ob0 w av rk bad'->VR1 noβ [] w bad' (bVz s x) u bs:=by
  intro hc hs
  rw[hc]at hk
  have hne:cellsOf a≠[]:=fun he=>by rw[he]at hk;exact shK_nil hk
  obtain⟨x,rest,ob',v1,v2,rk,ok,bs,h1,h2,h3,h4,h5⟩:=shE hO hp hk (bM9 h hne)
  obtain⟨hrest,h1'⟩:=hK _ _ _ _ h1
  cases rest with
  |cons _ _=>cases hrest
  |nil=>
   cases h3
   rw[List.append_nil]at h2
   refine⟨x,ob',rk,ok,bs,h1',h4,fun bad' hb=>?_⟩
   have hR:=h5 bad' hb
   have hu:u = .agg u.cells:=two_cells h hne (by rw[h2];exact hR.len.2 hs)
   rcases hs with⟨a',b',rfl⟩|⟨a',b',rfl⟩
   .refine⟨v1,?_,hR.cells⟩
    rw[hu,<-h2]
   .obtain⟨rfl,he⟩:=hR
    refine⟨rfl,v1,?_,he⟩
    simp only[Vrep];rw[hu,<-h2]
 have one:cAc s a=[a]->(¬∃a b,s = .agg a b)->(¬∃a b,s = .d (.pair a b))->∃x ob' rk ok bs,k x ob'=some r/\Took β ob0 ob ob' rk ok bs/\∀bad',Calm β ob0 w av rk bad'->VR1 noβ [] w bad' (bVz s x) u bs:=by
  intro hc hs1 hs2
  rw[hc]at hk
  have hnt:∀vs,a ≠ .tup vs:=by
   rintro vs rfl
   cases s with
   |d τ=>
    simp only[shK]at hk
    cases τ with
    |pair a b=>exact hs2 ⟨a,b,rfl⟩
    |list e=>simp[bGg,bXb]at hk
    |int κ=>simp[bGg]at hk
    |bool=>simp[bGg]at hk
   |own τ=>simp[shK]at hk
   |agg a b=>exact hs1 ⟨a,b,rfl⟩
  have hv1:=Vs.cons (vr21 hnt h) (Vs.nil (r:=VR1 β ob0 w av))
  rw[List.append_nil]at hv1
  obtain⟨x,rest,ob',v1,v2,rk,ok,bs,h1,h2,h3,h4,h5⟩:=shE hO hp hk hv1
  obtain⟨hrest,h1'⟩:=hK _ _ _ _ h1
  cases rest with
  |cons _ _=>cases hrest
  |nil=>
   cases h3
   rw[List.append_nil]at h2
   subst h2
   refine⟨x,ob',rk,ok,bs,h1',h4,fun bad' hb=>?_⟩
   have hR:=h5 bad' hb
   cases s with
   |d τ=>
    obtain⟨rfl,he⟩:=hR
    refine⟨rfl,[u],?_,he⟩
    cases τ with
    |pair a b=>exact absurd ⟨a,b,rfl⟩ hs2
    |_=>rfl
   |own τ=>
    obtain⟨v,hv,hn⟩:=hR
    simp only[List.cons.injEq,and_true]at hv
    subst hv
    exact hn
   |agg a b=>exact absurd ⟨a,b,rfl⟩ hs1
 cases s with
 |agg a b=>exact many rfl (.inl ⟨a,b,rfl⟩)
 |own τ=>exact one rfl (by rintro⟨_,_,h⟩;cases h) (by rintro⟨_,_,h⟩;cases h)
 |d τ=>
  cases τ with
  |pair a b=>exact many rfl (.inr ⟨a,b,rfl⟩)
  |_=>exact one rfl (by rintro⟨_,_,h⟩;cases h) (by rintro⟨_,_,h⟩;cases h)
theorem endE{R:Type}{ob0:Obs}{av:Nat->Prop}(hO:ObR b0 β ob0 w av):∀{rs:List Sh} {ob:Obs},Part ob ob0->∀{as:List AV} {us:List Value} {k:dens rs->Obs->Option R} {r:R},endK ob rs as k=some r->Vs (VR2 β ob0 w av) as us [] ->
  ∃x ob' rk ok bs,k x ob'=some r/\Took β ob0 ob ob' rk ok bs/\∀bad',Calm β ob0 w av rk bad'->Vs (VR1 noβ [] w bad') (bK1 rs x) us bs
 |[],ob,hp,as,us,k,r,hk,h=>by
  cases as with
  |cons _ _=>simp[endK]at hk
  |nil=>cases h;exact⟨(),ob,[],[],[],hk,Took.refl _ _ _,fun _ _=>.nil⟩
 |[s],ob,hp,as,us,k,r,hk,h=>by
  cases as with
  |nil=>simp[endK]at hk
  |cons a as=>
   cases as with
   |cons _ _=>simp[endK]at hk
   |nil=>
    obtain⟨u,ur,b,br,rfl,hb,h1,h2⟩:=h.split
    have hb':=hb.symm
    rw[List.append_eq_nil_iff]at hb'
    obtain⟨rfl,rfl⟩:=hb'
    cases h2
    obtain⟨x,ob',rk,ok,bs,g1,g2,g3⟩:=shV hO hp (k:=k) (K:=fun x r ob=>match r with|[]=>k x ob|_=>none) (fun x rest ob' z h=>by cases rest with|nil=>exact⟨rfl,h⟩|cons _ _=>cases h) hk h1
    exact⟨x,ob',rk,ok,bs,g1,g2,fun bad' hb=>by have:=Vs.cons (g3 bad' hb) .nil;rwa [List.append_nil]at this⟩
 |s::t::rs,ob,hp,as,us,k,r,hk,h=>by
  cases as with
  |nil=>simp[endK]at hk
  |cons a as=>
   obtain⟨u,ur,b,br,rfl,hb,h1,h2⟩:=h.split
   have hb':=hb.symm
   rw[List.append_eq_nil_iff]at hb'
   obtain⟨rfl,rfl⟩:=hb'
   obtain⟨x,ob1,rk,ok,bs,g1,g2,g3⟩:=shV hO hp (k:=fun x ob=>endK ob (t::rs) as fun y ob=>k (x,y) ob) (K:=fun x r' ob=>match r' with|[]=>endK ob (t::rs) as fun y ob=>k (x,y) ob|_=>none) (fun x rest ob' z h=>by cases rest with|nil=>exact⟨rfl,h⟩|cons _ _=>cases h) hk h1
   obtain⟨y,ob',rk',ok',bs',e1,e2,e3⟩:=endE hO (g2.part.trans hp) g1 h2
   exact⟨(x,y),ob',_,_,_,e1,g2.trans hO e2,fun bad' hb=>Vs.cons (g3 bad' (hb.sub fun k hk=>by simp[hk])) (e3 bad' (hb.sub fun k hk=>by simp[hk]))⟩
theorem iosE{R:Type}{ob0:Obs}{av:Nat->Prop}(hO:ObR b0 β ob0 w av){sl:List AV}{tmps:Array Value}(hsl:∀i,VR2 β ob0 w av (sl.getD i .any) (tmps.getD i undef) []):∀{ms:List Mode} {i:Nat} {ss:List Sh} {ob:Obs},Part ob ob0->∀{vs:List Value} {k:dens ss->Option R} {r:R},
  (∀j v,vs[j]?=some v->tmps.getD (i+j) undef=v)->ms.length<=vs.length->iosK ob sl ms i ss k=some r ->
  ∃x ob' rk ok bs,k x=some r/\Took β ob0 ob ob' rk ok bs/\∀bad',Calm β ob0 w av rk bad'->Vs (VR2 noβ [] w bad') ((bK1 ss x).map ioOf) (bRr ms vs) bs
 |[],i,ss,ob,hp,vs,k,r,hv,hl,hk=>by
  cases ss with
  |cons _ _=>simp[iosK]at hk
  |nil=>exact⟨(),ob,[],[],[],by simpa[iosK]using hk,Took.refl _ _ _,fun _ _=>by simp only[bK1,List.map_nil,bRr];exact .nil⟩
 |m::ms,i,ss,ob,hp,vs,k,r,hv,hl,hk=>by
  cases vs with
  |nil=>simp at hl
  |cons v vs=>
   have hv0:tmps.getD i undef=v:=by have:=hv 0 v rfl;simpa using this
   have hv':∀j u,vs[j]?=some u->tmps.getD (i+1+j) undef=u:=fun j u hj=>by
    have:=hv (j+1) u (by simpa using hj)
    rw[show i+1+j=i+(j+1) from by omega];exact this
   have hl':ms.length<=vs.length:=by simpa using hl
   have skip:(∀s,m ≠ .io s)->∃x ob' rk ok bs,k x=some r/\Took β ob0 ob ob' rk ok bs/\∀bad',Calm β ob0 w av rk bad'->Vs (VR2 noβ [] w bad') ((bK1 ss x).map ioOf) (bRr (m::ms) (v::vs)) bs:=by
    intro hm
    have hk':iosK ob sl ms (i+1) ss k=some r:=by cases m<;>first|(simp only[iosK]at hk;exact hk)|exact absurd rfl (hm _)
    obtain⟨x,ob',rk,ok,bs,h1,h2,h3⟩:=iosE hO hsl (ms:=ms) hp hv' hl' hk'
    have he:bRr (m::ms) (v::vs)=bRr ms vs:=by cases m<;>first|rfl|exact absurd rfl (hm _)
    exact⟨x,ob',rk,ok,bs,h1,h2,by rw[he];exact h3⟩
   cases m with
   |ro=>exact skip (by simp)
   |mv s=>exact skip (by simp)
   |io s0=>
    have hsl0:=hsl i
    rw[hv0]at hsl0
    match ss,k,hk with
    |[],k,hk=>simp[iosK]at hk
    |[s],k,hk=>
     simp only[iosK]at hk
     obtain⟨x,ob1,rk,ok,bs,g1,g2,g3,_⟩:=io1E hO hp hk hsl0
     obtain⟨y,ob',rk',ok',bs',e1,e2,e3⟩:=iosE hO hsl (ms:=ms) (ss:=[]) (g2.part.trans hp) hv' hl' g1
     refine⟨x,ob',_,_,_,e1,g2.trans hO e2,fun bad' hb=>?_⟩
     have:=Vs.cons (g3 bad' (hb.sub fun k hk=>by simp[hk])) (e3 bad' (hb.sub fun k hk=>by simp[hk]))
     simpa only[bK1,List.map_cons,List.map_nil,bRr]using this
    |s::t::rs,k,hk=>
     simp only[iosK]at hk
     obtain⟨x,ob1,rk,ok,bs,g1,g2,g3,_⟩:=io1E hO hp hk hsl0
     obtain⟨y,ob',rk',ok',bs',e1,e2,e3⟩:=iosE hO hsl (ms:=ms) (g2.part.trans hp) hv' hl' g1
     refine⟨(x,y),ob',_,_,_,e1,g2.trans hO e2,fun bad' hb=>?_⟩
     have:=Vs.cons (g3 bad' (hb.sub fun k hk=>by simp[hk])) (e3 bad' (hb.sub fun k hk=>by simp[hk]))
     simpa only[bK1,List.map_cons,bRr]using this
theorem cGr{P:Program}{R:Type}{E:Env}(hA:bNb P E){st:St}{tmps:Array Value}(hR:Rel b0 β st w tmps){g:ResultVar->Sem Value}(hg1:∀t,g (.tmp t)=pure (tmps.getD t undef))(hg2:∀a t,g (.cell a t)=do loadVar t (<-asAddr (tmps.getD a undef))):
  ∀{l:List ResultVar} {k:List AV->Option R} {r:R},bVa E st l k=some r ->
  ∃as us,k as=some r/\(l.mapM g).run P w = .ok us w/\Vs (VR2 β st.ob w (Av b0 β st.ob F0)) as us []
 |[],k,r,hk=>⟨[],[],by simpa[bVa]using hk,by simp,.nil⟩
 |.tmp t::l,k,r,hk=>by
  simp only[bVa]at hk
  obtain⟨as,us,h1,h2,h3⟩:=cGr hA hR hg1 hg2 hk
  refine⟨st.sl.getD t .any::as,tmps.getD t undef::us,h1,?_,?_⟩
  .rw[List.mapM_cons,hg1]
   simp only[Sem.run_bind,Sem.run_pure,Result.andThen_ok,h2]
  .have:=Vs.cons (hR.sr.slot t) h3
   simpa using this
 |.cell a t::l,k,r,hk=>by
  simp only[bVa]at hk
  obtain⟨av,u,g1,g2,g3⟩:=cFu (P:=P) hA.env hA.ot.agg hR.sr.obs (fun b hb=>.inr (.inl hb)) hk (hR.sr.slot a)
  obtain⟨as,us,h1,h2,h3⟩:=cGr hA hR hg1 hg2 g1
  refine⟨av::as,u::us,h1,?_,?_⟩
  .rw[List.mapM_cons,hg2]
   obtain⟨ad,had⟩:∃ad,tmps.getD a undef = .pointer (some ad):=by
    have hsl:=hR.sr.slot a
    unfold loadK at hk
    split at hk
    .rename_i hx;rw[hx]at hsl;obtain⟨_,b,c,cs,_,_,hv⟩:=hsl;exact⟨_,hv⟩
    .rename_i hx;rw[hx]at hsl;obtain⟨_,_,_,b,c,_,_,_,hv⟩:=hsl;exact⟨_,hv⟩
    .rename_i hx;rw[hx]at hsl;obtain⟨_,ad,cs,hv,_⟩:=hsl;exact⟨_,hv⟩
    .rename_i hx;rw[hx]at hsl;obtain⟨_,_,_,b,o,c,_,_,hv⟩:=hsl;exact⟨_,hv⟩
    .cases hk
   rw[had]at g2 ⊢
   have g2':(do loadVar t (<-asAddr (.pointer (some ad))):Sem Value).run P w = .ok u w:=by
    simp only[Instr.loadAt,Instr.sureAddr,asAddr]at g2 ⊢
    first|exact g2|simpa using g2
   rw[Sem.run_bind,g2']
   simp only[Sem.run_bind,Sem.run_pure,Result.andThen_ok,h2]
  .have:=Vs.cons g3 h3
   simpa using this
end
end
section
section
variable {b0:Nat->Prop} {β:bB5} {ob:Obs} {w:World}
theorem bYm{bad:Nat->Prop}:∀{as:List AV} {i:Nat} {β:bB5} {ob:Obs} {vs:List Value} {bs:List Nat},ObR b0 β ob w bad->bR1 b0 β ob w bs->Vs (VR2 β ob w bad) as vs bs ->
  ∃β',bNu b0 w bad bs β ob β' (bM5 ob as i).2/\Vs (VR2 β' (bM5 ob as i).2 w bad) (bM5 ob as i).1 vs []/\∀a∈(bM5 ob as i).1,bFb a=false
 |[],i,β,ob,vs,bs,hO,hl,h=>by
  cases h
  exact⟨β,bNu.refl hO [],.nil,by simp[bM5]⟩
 |a::as,i,β,ob,vs,bs,hO,hl,h=>by
  obtain⟨v,vr,b,br,rfl,rfl,h1,h2⟩:=h.split
  obtain⟨β1,n1,g1,f1⟩:=bVi (key:=parKey i) hO hl.left h1
  obtain⟨β2,n2,g2,f2⟩:=bYm (as:=as) (i:=i+1) n1.obs (hl.right n1) (h2.imp fun a v b _ hr=>hr.ext n1.ext)
  refine⟨β2,n1.trans n2,?_,?_⟩
  .have:=Vs.cons (VR2.ext n2.ext g1) g2
   simpa[bM5]using this
  .intro c hc
   simp only[bM5,List.mem_cons]at hc
   rcases hc with rfl|hc
   .exact f1
   .exact f2 c hc
theorem cBk:∀{as:List AV} {ob:Obs} {i:Nat},(bM5 ob as i).1.length=as.length
 |[],ob,i=>rfl
 |a::as,ob,i=>by simp only[bM5,List.length_cons];rw[cBk]
theorem cAp:∀{s t:List Sh} {x:dens s} {y:dens t},bH3 s t (joinD s t x y)=(x,y)
 |[],t,x,y=>rfl
 |[s],[],x,y=>rfl
 |[s],t::r,x,y=>rfl
 |s::b::r,t,x,y=>by
  have:=cAp (s:=b::r) (t:=t) (x:=x.2) (y:=y)
  show(let (x',y'):=bH3 (b::r) t (joinD (b::r) t x.2 y);(((joinD (s::b::r) t x y).1,x'),y'))=(x,y)
  rw[this]
  rfl
theorem iosK_no{R:Type}{sl:List AV}:∀{ms:List Mode} {i:Nat} {ss:List Sh} {k:dens ss->Option R} {r:R},ms.any Mode.isIo=false->iosK ob sl ms i ss k=some r->∃x,k x=some r/\bK1 ss x=[]/\∀vs,bRr ms vs=[]
 |[],i,ss,k,r,h,hk=>by
  cases ss with
  |nil=>exact⟨(),by simpa[iosK]using hk,rfl,fun vs=>by cases vs<;>rfl⟩
  |cons _ _=>simp[iosK]at hk
 |.io s::ms,i,ss,k,r,h,hk=>by simp[Mode.isIo]at h
 |.ro::ms,i,ss,k,r,h,hk=>by
  obtain⟨x,h1,h2,h3⟩:=iosK_no (ms:=ms) (i:=i+1) (by simpa[Mode.isIo]using h) (by simpa only[iosK]using hk)
  exact⟨x,h1,h2,fun vs=>by cases vs<;>simp[bRr,h3]⟩
 |.mv s::ms,i,ss,k,r,h,hk=>by
  obtain⟨x,h1,h2,h3⟩:=iosK_no (ms:=ms) (i:=i+1) (by simpa[Mode.isIo]using h) (by simpa only[iosK]using hk)
  exact⟨x,h1,h2,fun vs=>by cases vs<;>simp[bRr,h3]⟩
theorem bM8:∀(c:Code),bMz 0 c=true
 |.region _ ops _=>by
  simp only[bMz,List.all_eq_true]
  intro o _
  unfold cBv
  split<;>simp
 |.seq a b=>by simp only[bMz,bM8 a,bM8 b,Bool.and_self]
 |.cond _ a b=>by simp only[bMz,bM8 a,bM8 b,Bool.and_self]
 |.block _ c=>by simp only[bMz,bM8 c]
 |.loop c=>by simp only[bMz,bM8 c]
 |.skip=>rfl
 |.exit _=>rfl
 |.ret=>rfl
 |.scope _=>rfl
 |.refuse _=>rfl
 |.label ..=>rfl
 |.goto ..=>rfl
 |.rangeFunc ..=>rfl
theorem results_run{P:Program}{fn:Func}{tmps:Array Value}{us:List Value}{g:ResultVar->Sem Value}(hg1:∀t,g (.tmp t)=pure (tmps.getD t undef))(hg2:∀a t,g (.cell a t)=do loadVar t (<-asAddr (tmps.getD a undef)))(h:(fn.results.toList.mapM g).run P w = .ok us w):
  (results fn tmps).run P w = .ok (if h:us.toArray.size=1 then us.toArray[0] else .tuple us.toArray) w:=by
 have hm:fn.results.mapM g=List.toArray <$> fn.results.toList.mapM g:=by rw[<-List.mapM_toArray]
 have he:results fn tmps=fn.results.mapM g >>= fun vs=>pure (if h:vs.size=1 then vs[0] else .tuple vs):=by
  unfold results
  congr 1
  congr 1
  funext x
  cases x with
  |tmp t=>exact(hg1 t).symm
  |cell a t=>exact(hg2 a t).symm
 rw[he,hm]
 simp[h]
theorem calm_of{ob0 ob':Obs}{rk ok bs:List Nat}{w:World}(hO:ObR b0 β ob0 w (Av b0 β ob0 F0)){ob:Obs}(hp:Part ob ob0)(hT:Took β ob0 ob ob' rk ok bs):Calm β ob0 w (Av b0 β ob0 F0) rk (fun b=>b0 b\/b∈bs):=by
 refine⟨fun b _ hb=>?_,fun key hk b hbl hb=>?_⟩
 .rcases hb with h|h
  .exact .inl h
  .obtain⟨key,_,x,o,c,h1,h2⟩:=hT.own b h
   exact .inr (.inl ⟨key,x,o,c,h1,h2⟩)
 .rcases hb with h|h
  .obtain⟨x,o,c,h1,h2⟩:=hbl
   exact(hO.lt b ⟨key,x,o,c,h1,h2⟩).2 h
  .obtain⟨key2,hk2,h2⟩:=hT.own b h
   have:=cD0 hO hbl h2
   subst this
   exact hT.dis key hk hk2
theorem resAV_of{bad:Nat->Prop}{rs:List Sh}{x:dens rs}{us:List Value}{bs:List Nat}(h:Vs (VR1 noβ [] w bad) (bK1 rs x) us bs):VR2 noβ [] w bad (bR3 rs x) (if h:us.toArray.size=1 then us.toArray[0] else .tuple us.toArray) bs:=by
 have hl:=h.len
 unfold bR3
 split
 .rename_i a ha
  rw[ha]at h hl
  obtain⟨u,ur,b,br,rfl,rfl,h1,h2⟩:=h.split
  cases h2
  simp only[List.append_nil]
  exact vr12 h1
 .rename_i hne
  have hn1:¬us.toArray.size=1:=by
   intro h1
   simp only[List.size_toArray]at h1
   rw[h1]at hl
   match hx:bK1 rs x,hl with
   |[a],_=>exact hne a hx
   |[],hl=>simp at hl
   |_::_::_,hl=>simp at hl
  rw[dif_neg hn1]
  exact⟨us,rfl,h⟩
theorem call0_ok{P:Program}{E:Env}(hA:bNb P E)(hP:P.follows .mixedOrders=true){n:Nat}(hC:∀m,m<n->bJu P E (bHe E (runF E m))):bJu P E (bVr E (runF E n)):=by
 intro g ms rs hsg xs r hr
 unfold bVr at hr
 split at hr
 .rename_i c st hinit
  unfold initSt at hinit
  split at hinit
  .rename_i fn hfn
   split at hinit
   .rename_i c' hbody
    obtain⟨hchk,hinit⟩:=bCj hinit
    simp only[Option.some.injEq,Prod.mk.injEq]at hinit
    obtain⟨rfl,rfl⟩:=hinit
    simp only[hsg]at hchk
    obtain⟨hf,hname⟩:=hA.env.fn _ _ hfn
    refine⟨⟨fn,hf,hname,by rw[hbody];rfl⟩,fun b0 w vs bs hvs hnd hbs hb0=>?_⟩
    have hO0:ObR b0 noβ [] w (fun b=>b0 b\/b∈bs):=⟨fun _ _ _ h=>(by cases h),fun _ _ h=>(by cases h),fun _ _ _ _ _ _ _ _ _ h=>(by cases h),fun b h=>(by obtain⟨_,_,_,_,h,_⟩:=h;cases h)⟩
    have hl0:bR1 b0 noβ [] w bs:=⟨hnd,fun b hb=>⟨(hbs b hb).1,(hbs b hb).2,fun⟨_,_,_,_,h,_⟩=>by cases h⟩⟩
    obtain⟨β,n1,g1,f1⟩:=bYm (i:=0) hO0 hl0 hvs
    have hlen:=cBk (as:=xs) (ob:=[]) (i:=0)
    have hvl:xs.length=vs.length:=hvs.len
    generalize hia:bM5 [] xs 0=ia at n1 g1 f1 hlen hr
    obtain⟨sl,ob⟩:=ia
    simp only at n1 g1 f1 hlen hr
    have hown:∀b,Own β ob b->b∈bs:=fun b hb=>(n1.own b hb).resolve_left fun⟨_,_,_,_,h,_⟩=>by cases h
    have hav:∀b,b<w.heap.size->Av b0 β ob F0 b->(b0 b\/b∈bs):=fun b _ h=>(bXz.1 h).imp id (hown b)
    let tmps:Array Value:=vs.toArray++Array.replicate (fn.ntmps-vs.toArray.size) undef
    have htmp:∀i,i<vs.length->tmps.getD i undef=vs.getD i undef:=fun i hi=>by
     simp only[tmps,Array.getD_eq_getD_getElem?,List.getD]
     rw[Array.getElem?_append_left (by simpa using hi)]
     simp
    have htmp2:∀i,vs.length<=i->tmps.getD i undef=undef:=fun i hi=>by
     simp only[tmps,Array.getD_eq_getD_getElem?]
     rw[Array.getElem?_append_right (by simpa using hi)]
     rw[Array.getElem?_replicate]
     split<;>rfl
    have hR:Rel b0 β { f:=g,sl:=sl++List.replicate (fn.ntmps-sl.length) .non,ob:=ob } w tmps:=by
     refine⟨⟨n1.obs.mono (bad0:=fun _=>False) (Same.refl _ w) (fun _ _ x=>x.elim) hav (fun _ _ x=>x),fun i=>?_,by simp[tmps,hlen,hvl],(fun i b hb=>by cases hb),fun i=>List.nodup_nil,(fun i j b hi=>by cases hi),hb0⟩,fun i=>?_⟩
     .rcases Nat.lt_or_ge i sl.length with hi|hi
      .have h1:(sl++List.replicate (fn.ntmps-sl.length) AV.non).getD i .any=sl[i]:=by
        simp[List.getD,List.getElem?_append_left hi,hi]
       rw[h1,htmp i (by omega)]
       obtain⟨v,hv,hr'⟩:=g1.pointwise.2 i sl[i] (List.getElem?_eq_getElem hi)
       have:vs.getD i undef=v:=by simp[List.getD,hv]
       rw[this]
       exact hr'.weaken hav
      .rw[htmp2 i (by omega)]
       rcases Nat.lt_or_ge (i-sl.length) (fn.ntmps-sl.length) with h2|h2
       .have h1:(sl++List.replicate (fn.ntmps-sl.length) AV.non).getD i .any = .non:=by
         simp[List.getD,List.getElem?_append_right hi,h2]
        rw[h1];exact⟨rfl,rfl⟩
       .have h1:(sl++List.replicate (fn.ntmps-sl.length) AV.non).getD i .any = .any:=by
         simp[List.getD,List.getElem?_append_right hi,h2]
        rw[h1];rfl
     .rcases Nat.lt_or_ge i sl.length with hi|hi
      .have h1:(sl++List.replicate (fn.ntmps-sl.length) AV.non).getD i .any=sl[i]:=by
        simp[List.getD,List.getElem?_append_left hi,hi]
       simp only[h1]
       exact f1 _ (List.getElem_mem hi)
      .have h1:(sl++List.replicate (fn.ntmps-sl.length) AV.non).getD i .any = .non\/(sl++List.replicate (fn.ntmps-sl.length) AV.non).getD i .any = .any:=by
        rcases Nat.lt_or_ge (i-sl.length) (fn.ntmps-sl.length) with h2|h2
        .left;simp[List.getD,List.getElem?_append_right hi,h2]
        .right;simp[List.getD,List.getElem?_append_right hi,h2]
       rcases h1 with h1|h1<;>simp only[h1]<;>rfl
    -- how many slots stay
    obtain⟨np,hnp,hio⟩:∃np,bMz np c'=true/\(ms.any Mode.isIo=true->np=vs.length/\ms.length<=vs.length):=by
     cases hm:ms.any Mode.isIo with
     |false=>exact⟨0,bM8 c',fun h=>by cases h⟩
     |true=>
      rw[hm]at hchk
      simp only[Bool.not_true,Bool.false_or,Bool.and_eq_true]at hchk
      exact⟨xs.length,hchk.2,fun _=>⟨hvl,by rw[<-hvl];exact Nat.le_of_ble_eq_true hchk.1⟩⟩
    intro cs
    let b:Frame:={ (default:Frame) with fn:=g,kind:=.normal }
    have henter:Frame.enter P g vs.toArray .normal=b.at { tmps:=tmps,defers:=[] } [.code c']:=by
     simp[Frame.enter,Frame.at,hf,hbody,b,tmps]
    obtain⟨todo,a',w',st',h1,h2,h3,h4,h5⟩:=sim hA (draw_sound hA hP) (each_sound hA hP) (np:=np) n hC (rs++bGn ms) [.code c'] _ r hr [.code c'] β { tmps:=tmps,defers:=[] } w b cs (.code .nil) (fun i hi=>by
     have:i = .code c':=by simpa using hi
     subst this;exact hnp) hR
    obtain⟨⟨β',k1,k2⟩,k3⟩:=h5
    -- the end
    unfold finK at h2
    simp only at h3
    rw[h3]at h2
    simp only[hfn,hsg]at h2
    rw[dif_pos trivial]at h2
    obtain⟨as,us,e1,e2,e3⟩:=cGr (P:=P) (g:=fun|.tmp t=>pure (a'.tmps.getD t undef)|.cell a t=>do loadVar t (<-asAddr (a'.tmps.getD a undef))) hA k1 (fun _=>rfl) (fun _ _=>rfl) h2
    obtain⟨x,ob1,rk1,ok1,bs1,e4,e5,e6⟩:=endE k1.sr.obs (Part.refl _) e1 e3
    have hres:(results fn a'.tmps).run P w' = .ok (if h:us.toArray.size=1 then us.toArray[0] else .tuple us.toArray) w':=by
     exact results_run (fun _=>rfl) (fun _ _=>rfl) e2
    obtain⟨y,ob2,rk2,ok2,bs2,e7,e8,e9⟩:∃y ob2 rk2 ok2 bs2,some (joinD rs (bGn ms) x y)=some r/\Took β' st'.ob ob1 ob2 rk2 ok2 bs2/\∀bad',Calm β' st'.ob w' (Av b0 β' st'.ob F0) rk2 bad'->Vs (VR2 noβ [] w' bad') ((bK1 (bGn ms) y).map ioOf) (bRr ms vs) bs2:=by
     cases hm:ms.any Mode.isIo with
     |false=>
      obtain⟨y,g1,g2,g3⟩:=iosK_no hm e4
      exact⟨y,ob1,[],[],[],g1,Took.refl _ _ _,fun _ _=>by rw[g2,g3];exact .nil⟩
     |true=>
      obtain⟨q1,q2⟩:=hio hm
      obtain⟨y,ob2,rk2,ok2,bs2,g1,g2,g3⟩:=iosE k1.sr.obs k1.sr.slot e5.part (vs:=vs) (fun j v hj=>by
       have hjl:=bHt hj
       rw[Nat.zero_add,h4.2 j (by omega)]
       show tmps.getD j undef=v
       rw[htmp j hjl]
       simp[List.getD,hj]) q2 e4
      exact⟨y,ob2,rk2,ok2,bs2,g1,g2,g3⟩
    have hT:=e5.trans k1.sr.obs e8
    have hcalm:=calm_of k1.sr.obs (Part.refl _) hT
    refine⟨.returned (if h:us.toArray.size=1 then us.toArray[0] else .tuple us.toArray),w',_,⟨_,rfl,?_,?_⟩,by rw[henter];exact h1,rfl,rfl,h4.1,rfl,fn,hf,hres⟩
    .exact k3.mono fun b _ hb=>hown b hb
    .refine⟨bs1,bs2,hT.nd,fun b hb=>?_,?_,?_⟩
     .obtain⟨key,_,x',o,c,q1,q2⟩:=hT.own b hb
      have hob:Own β' st'.ob b:=⟨key,x',o,c,q1,q2⟩
      exact⟨(k1.sr.obs.lt b hob).1,(k2 b hob).imp (hown b) id⟩
     .have hr':=Option.some.inj e7
      rw[<-hr',cAp]
      exact resAV_of (e6 _ (hcalm.sub fun k hk=>by simp[hk]))
     .have hr':=Option.some.inj e7
      rw[<-hr',cAp]
      exact e9 _ (hcalm.sub fun k hk=>by simp[hk])
   .cases hinit
  .cases hinit
 .cases hr
theorem call_ok{P:Program}{E:Env}(hA:bNb P E)(hP:P.follows .mixedOrders=true){n:Nat}(hC:∀m,m<n->bJu P E (bHe E (runF E m))):bJu P E (bHe E (runF E n)):=by
 intro g ms rs hsg xs r hr
 have h0:=call0_ok hA hP hC
 have h1:bJu P E (bBg E (runF E n)):=by
  intro g ms rs hsg xs r hr
  unfold bBg at hr
  split at hr
  .cases hr
  .exact h0 g ms rs hsg xs r hr
 unfold bHe at hr
 split at hr
 .rename_i k hk
  obtain⟨e1,e2⟩:=hA.hk g k hk
  exact⟨e1,e2 _ h1 ms rs hsg xs r hr⟩
 .exact h0 g ms rs hsg xs r hr
theorem calls_ok{P:Program}{E:Env}(hA:bNb P E)(hP:P.follows .mixedOrders=true):∀(n:Nat),bJu P E (bHe E (runF E n)):=by
 intro n
 induction n using Nat.strongRecOn with
 |ind n ih=>exact call_ok hA hP ih
theorem DF_ok{P:Program}{E:Env}(hA:bNb P E)(hP:P.follows .mixedOrders=true):bJu P E (DF E):=by
 intro g ms rs hsg xs r hr
 have:∃n,bHe E (runF E n) g xs (rs++bGn ms)=some r:=by
  have hD:∀s,bL5 s (DM E s) (fun n=>runF E n s):=fun s t st r h=>by
   obtain⟨n,h⟩:=DM_iff.1 h
   exact⟨n,fun m hm=>cGm hm h⟩
  obtain⟨n,h1⟩:=cAd hD g xs _ r hr
  exact⟨n,h1 n (Nat.le_refl _)⟩
 obtain⟨n,hn⟩:=this
 exact calls_ok hA hP n g ms rs hsg xs r hn
end
end
section
def cloneBody(t b:TypeId):Code:=
 (Code.region 0 #[⟨some 2, .assign (.const (.slice none 0 0)), t, "slices.go:355", #[], none⟩] false).seq
  (((Code.region 1 #[⟨some 3, .move (.tmp 0), t, "slices.go:357", #[], none⟩, ⟨some 4, .binOp .eql t (.tmp 3) (.const (.slice none 0 0)) t, b, "slices.go:357", #[⟨0, .data⟩], none⟩] false).seq
    (Code.cond (.tmp 4) ((Code.region 2 #[⟨some 2, .assign (.const (.slice none 0 0)), t, "slices.go:358", #[], none⟩] false).seq .ret) .skip)).seq
   ((Code.region 3 #[⟨some 5, .buildSlice t 0 #[], t, "slices.go:362", #[], none⟩, ⟨some 6, .move (.tmp 0), t, "slices.go:362", #[], none⟩,
     ⟨some 7, .call ⟨.builtin .append, #[.tmp 5, .tmp 6], #[t, t]⟩, t, "slices.go:362", #[⟨0, .data⟩, ⟨1, .data⟩], none⟩,
     ⟨some 2, .assign (.tmp 7), t, "slices.go:362", #[⟨2, .data⟩, ⟨2, .chain⟩, ⟨0, .phase⟩, ⟨1, .phase⟩, ⟨2, .phase⟩], none⟩] false).seq .ret))
section
variable {w:World} {P:Program}
theorem bLd{ops:Array Oper}{Q:Exit->Act->World->Prop}{i:Nat}{rest:List Nat}{o:Oper}{v:Value}{a:Act}{w w':World}(ho:ops[i]?=some o)(hg:o.guard=none)(h:(execOp a.eval o).run P w = .ok (.value v) w')(hn:wpOps P ops Q rest (a.put o.dst v) w'):wpOps P ops Q (i::rest) a w:=by
 rw[wpOps_cons]
 unfold wpOp
 rw[ho]
 have hw:Region.wanted o (yielded ops a.tmps)=true:=by simp[Region.wanted,hg]
 simp only[hw,if_true]
 exact .inl (bR7 h hn)
theorem run_isNil{t te:TypeId}(hu:P.underlying t=some (.slice te))(A:Option Addr)(n c:Nat)(x y:Operand):(do eqGuard .eql t x y (.slice A n c) (.slice none 0 0);binOp .eql t (.slice A n c) (.slice none 0 0):Sem Value).run P w = .ok (.bool A.isNone) w:=by
 have h1:(eqGuard .eql t x y (.slice A n c) (.slice none 0 0)).run P w = .ok () w:=by simp[eqGuard]
 rw[Sem.run_bind,h1]
 simp only[Result.andThen_ok]
 have he:(Op.equalIn Op.maxDepth t (.slice A n c) (.slice none 0 0)).run P w = .ok A.isNone w:=by
  rw[show Op.maxDepth=(Op.maxDepth-1)+1 from rfl]
  cases A<;>simp[Op.equalIn,run_underlying hu]
 simp[binOp,Op.equal,he]
theorem bG6{g : FuncId}{fn : Func}{t te b : TypeId}{e : Ty}(hf : P.funcs[g]? = some fn)(hb : fn.body = some (cloneBody t b))(hn : fn.ntmps = 8)(hres : fn.results = #[.tmp 2])(hname : (fn.name == "runtime.NumGoroutine") = false)
  (hu:P.underlying t=some (.slice te)) (hte:TyIs P te e):Enters P g/\∀(bad:Nat->Prop) (w:World) (l:List e.den) (v:Value),Reads w bad e l v->l.length<=LIM ->
  Calls P g #[v] w fun en w'=>∃u bs,en = .returned u/\Same (fun _=>False) w w'/\bs.Nodup/\(∀b∈bs,b<w'.heap.size/\w.heap.size<=b) /\
   ∀bad',(∀b,b<w.heap.size->bad' b->bad b)->newV w' bad' e l u bs:=by
 refine⟨⟨fn,hf,hname,by rw[hb];rfl⟩,fun bad w l v hv hlim=>?_⟩
 refine calls_of_wp hf hb ?_
 rw[hn]
 have hr:∀(tm:Array Value) u w',tm.getD 2 undef=u->(results fn tm).run P w' = .ok u w':=by
  intro tm u w' h
  unfold results
  rw[hres]
  rw[Array.getD_eq_getD_getElem?]at h
  simp[h]
 have htm : #[v]++Array.replicate (8 - #[v].size) undef = #[v,undef,undef,undef,undef,undef,undef,undef]:=by rfl
 rw[htm]
 have hv':=hv
 obtain⟨A,c,rfl,hc,hA,hrd⟩:=hv'
 unfold cloneBody
 refine wp_seq (wp_region ?_)
 refine bLd (i := 0) (o := ⟨some 2, .assign (.const (.slice none 0 0)), t, "slices.go:355", #[], none⟩) (v := .slice none 0 0) (w' := w) rfl rfl (by simp [execOp, Act.eval]) ?_
 show Code.wp _ _ _ _ _
 refine wp_seq (wp_seq (wp_region ?_))
 refine bLd (i := 0) (o := ⟨some 3, .move (.tmp 0), t, "slices.go:357", #[], none⟩) (v := .slice A l.length c) (w' := w) rfl rfl (by simp [execOp, Act.eval, Act.put]) ?_
 refine bLd (i := 1) (o := ⟨some 4, .binOp .eql t (.tmp 3) (.const (.slice none 0 0)) t, b, "slices.go:357", #[⟨0, .data⟩], none⟩) (v := .bool A.isNone) (w' := w) rfl rfl ?_ ?_
 .have he : ∀ a : Act, a.eval (.tmp 3) = .slice A l.length c → (execOp a.eval ⟨some 4, .binOp .eql t (.tmp 3) (.const (.slice none 0 0)) t, b, "slices.go:357", #[⟨0, .data⟩], none⟩).run P w = .ok (.value (.bool A.isNone)) w := by
   intro a ha
   have : (execOp a.eval ⟨some 4, .binOp .eql t (.tmp 3) (.const (.slice none 0 0)) t, b, "slices.go:357", #[⟨0, .data⟩], none⟩) = (do pure (.value (← (do eqGuard .eql t (.tmp 3) (.const (.slice none 0 0)) (a.eval (.tmp 3)) (a.eval (.const (.slice none 0 0))); binOp .eql t (a.eval (.tmp 3)) (a.eval (.const (.slice none 0 0))) : Sem Value))) : Sem Next) := rfl
   rw[this,ha,Sem.run_bind]
   have:=run_isNil (w:=w) hu A l.length c (.tmp 3) (.const (.slice none 0 0))
   rw[show a.eval (.const (.slice none 0 0)) = .slice none 0 0 from rfl,this]
   rfl
  exact he _ (by simp[Act.eval,Act.put])
 show Code.wp _ _ _ _ _
 cases A with
 |none=>
  have hc0:=hA rfl
  have hl:l=[]:=List.eq_nil_of_length_eq_zero (by omega)
  subst hl
  refine wp_cond_true (by simp[Act.eval,Act.put]) ?_
  refine wp_seq (wp_region ?_)
  refine bLd (i := 0) (o := ⟨some 2, .assign (.const (.slice none 0 0)), t, "slices.go:358", #[], none⟩) (v := .slice none 0 0) (w' := w) rfl rfl (by simp [execOp, Act.eval]) ?_
  show Code.wp _ _ _ _ _
  refine wp_ret ⟨rfl,.slice none 0 0,hr _ _ _ (by simp[Act.put]),.slice none 0 0,[],rfl,Same.refl _ _,List.nodup_nil,by simp,fun _ _=>.inl ⟨⟨_,rfl⟩,rfl,rfl⟩⟩
 |some ad=>
  refine wp_cond_false (by simp[Act.eval,Act.put]) ?_
  refine wp_skip ?_
  show Code.wp _ _ _ _ _
  refine wp_seq (wp_region ?_)
  obtain⟨i,z,hi,hsz,hbt,hz,hzc,_⟩:=hte.info
  let wb:=w.alloc (.cells #[] te)
  have hbuild:(Instr.buildSlice t 0 #[]).run P w = .ok (.slice (some ⟨w.heap.size,0,none⟩) 0 0) wb:=by
   have hfill:Instr.fill (fun k=>some (k*e.size,e.size)) ((Array.range (0*e.size)).map (fun x=>(#[]:Array Value)[x%(#[]:Array Value).size]!)) []=some #[]:=by simp[Instr.fill]
   simp only[Instr.buildSlice,Sem.run_bind,run_underlying hu,Result.andThen_ok,bGb hte,Nat.zero_mul,if_true]
   rw[if_neg (by omega)]
   have hr0:Array.map (fun _=>(default:Value)) (Array.range 0) = #[]:=by rw[show Array.range 0 = #[] from by simp];simp
   simp[Instr.fill,newRow,run_newObj,World.alloc_eq,wb,hr0]
  refine bLd (i := 0) (o := ⟨some 5, .buildSlice t 0 #[], t, "slices.go:362", #[], none⟩) (v := .slice (some ⟨w.heap.size, 0, none⟩) 0 0) (w' := wb) rfl rfl (by simp [execOp, hbuild]) ?_
  refine bLd (i := 1) (o := ⟨some 6, .move (.tmp 0), t, "slices.go:362", #[], none⟩) (v := .slice (some ad) l.length c) (w' := wb) rfl rfl (by simp [execOp, Act.eval, Act.put]) ?_
  have hsame:Same (fun _=>False) w wb:=Same.alloc _ _ _
  have hvb:Reads wb (fun b=>b<w.heap.size->bad b) e l (.slice (some ad) l.length c):=by
   refine⟨_,_,rfl,hc,hA,fun a ha i x hx=>?_⟩
   obtain⟨q1,ds,q2,q3⟩:=hrd a ha i x hx
   exact⟨q1,ds,bHk (bad':=fun b=>b<w.heap.size->bad b) hsame (fun _ _ h=>h.elim) (fun b hlt h=>h hlt) q2,q3.same hsame (fun h=>h)⟩
  have happ:∃u w' bs,(Builtin.append_ #[t,t] t #[.slice (some ⟨w.heap.size,0,none⟩) 0 0,.slice (some ad) l.length c]).run P wb = .ok u w'/\Same (fun _=>False) wb w'/\bs.Nodup/\(∀b∈bs,b<w'.heap.size/\wb.heap.size<=b) /\
    ∀bad',(∀b,b<wb.heap.size->bad' b->b<w.heap.size->bad b)->newV w' bad' e l u bs:=by
   rcases Nat.eq_zero_or_pos l.length with hl|hl
   .have hl0:l=[]:=List.eq_nil_of_length_eq_zero hl
    subst hl0
    have hst:∀a,(storeCells a [] 0:Sem Unit).run P wb = .ok () wb:=fun a=>by simp[storeCells]
    have hfc:(Builtin.firstCells i.size 0 (.slice (some ad) 0 c)).run P wb = .ok #[] wb:=by
     simpa using run_firstCells_some (P:=P) wb i.size 0 ad 0 c [] (by simp) (by simp)
    refine⟨.slice (some ⟨w.heap.size,0,none⟩) 0 0,wb,[],?_,Same.refl _ _,by simp,by simp,fun _ _=>.inl ⟨⟨_,rfl⟩,rfl,rfl⟩⟩
    simp[Builtin.append_,run_underlying hu,sizeOf,typeInfo,hi,Builtin.lenOf,hfc,hst]
   .obtain⟨u,w',g1,g2,g3,g4⟩:=cHn (w:=wb) (ty:=t) (l:=([]:List e.den)) (ys:=l) (bad:=fun b=>b<w.heap.size->bad b) (A:=some ⟨w.heap.size,0,none⟩) (c:=0) hu hte (vx:=.slice (some ⟨w.heap.size,0,none⟩) 0 0)
     ⟨_,0,rfl,Nat.le_refl _,by simp,by simp⟩ rfl hvb (by simp) (by simpa using hl) (by simpa using hlim)
    refine⟨u,w',[wb.heap.size],g1,g2,by simp,fun b hb=>?_,fun bad' hb=>by simpa using g4 bad' hb⟩
    have:b=wb.heap.size:=by simpa using hb
    subst this
    exact⟨by omega,Nat.le_refl _⟩
  obtain⟨u,w',bs,h1,h2,h3,h4,h5⟩:=happ
  refine bLd (i := 2) (o := ⟨some 7, .call ⟨.builtin .append, #[.tmp 5, .tmp 6], #[t, t]⟩, t, "slices.go:362", #[⟨0, .data⟩, ⟨1, .data⟩], none⟩) (v := u) (w' := w') rfl rfl ?_ ?_
  .have he : ∀ a : Act, a.eval (.tmp 5) = .slice (some ⟨w.heap.size, 0, none⟩) 0 0 → a.eval (.tmp 6) = .slice (some ad) l.length c → (execOp a.eval ⟨some 7, .call ⟨.builtin .append, #[.tmp 5, .tmp 6], #[t, t]⟩, t, "slices.go:362", #[⟨0, .data⟩, ⟨1, .data⟩], none⟩).run P wb = .ok (.value u) w' := by
    intro a e5 e6
    simp[execOp,resolve,invoke,builtin,e5,e6,h1]
   exact he _ (by simp[Act.eval,Act.put]) (by simp[Act.eval,Act.put])
  refine bLd (i := 3) (o := ⟨some 2, .assign (.tmp 7), t, "slices.go:362", #[⟨2, .data⟩, ⟨2, .chain⟩, ⟨0, .phase⟩, ⟨1, .phase⟩, ⟨2, .phase⟩], none⟩) (v := u) (w' := w') rfl rfl (by simp [execOp, Act.eval, Act.put]) ?_
  show Code.wp _ _ _ _ _
  refine wp_ret ⟨rfl,u,hr _ _ _ (by simp[Act.put]),u,bs,rfl,hsame.trans h2 fun _ _ h=>h,h3,fun b hb=>⟨(h4 b hb).1,Nat.le_trans hsame.1 (h4 b hb).2⟩,fun bad' hb=>?_⟩
  exact h5 bad' fun b hlt hb' hlt'=>hb b hlt' hb'
end
end
section
section
variable {w:World} {P:Program}
end
end
section
def okD:(τ:Ty)->τ.den->Prop
 |.int κ,n=>(Lit.int κ n).wf=true
 |.bool,_=>True
 |.list e,l=>List.length (α:=e.den) l<=140737488351232/\∀x,x∈(show List e.den from l)->okD e x
 |.pair a b,v=>okD a v.1/\okD b v.2
section
variable {H:Type} {enc':TypeId×Value->H} {P:Program} {w:World}
theorem cF9{α:Type}{p:Nat->α->Prop}:∀{n:Nat},(∀i,i<n->∃x,p i x)->∃l:List α,l.length=n/\∀i x,l[i]?=some x->p i x
 |0,_=>⟨[],rfl,fun i x h=>by simp at h⟩
 |n+1,h=>by
  obtain⟨l,hl,hp⟩:=cF9 (n:=n) fun i hi=>h i (by omega)
  obtain⟨x,hx⟩:=h n (by omega)
  refine⟨l++[x],by simp[hl],fun i y hy=>?_⟩
  rcases Nat.lt_or_ge i l.length with hi|hi
  .rw[List.getElem?_append_left hi]at hy;exact hp i y hy
  .rw[List.getElem?_append_right hi]at hy
   have:i-l.length=0:=by
    rcases Nat.eq_zero_or_pos (i-l.length) with h|h
    .exact h
    .rw[List.getElem?_eq_none (by simp;omega)]at hy;cases hy
   rw[this]at hy
   simp at hy
   subst hy
   rw[show i=n from by omega];exact hx
theorem all_append{l m:List Nat}(h:(l++m).all (· <= reachBytes)=true):l.all (· <= reachBytes)=true/\m.all (· <= reachBytes)=true:=by
 rw[List.all_append,Bool.and_eq_true]at h;exact h
theorem bYi{te:TypeId}:∀{l:List (DataW H)} {i:Nat} {d:DataW H},(DataW.weightsAll P te l).all (· <= reachBytes)=true->l[i]?=some d->(d.weights P te).all (· <= reachBytes)=true
 |[],i,d,_,h=>by simp at h
 |x::l,0,d,hw,h=>by
  simp at h;subst h
  simp only[DataW.weightsAll]at hw
  exact(all_append hw).1
 |x::l,i+1,d,hw,h=>by
  simp only[DataW.weightsAll]at hw
  exact bYi (all_append hw).2 (by simpa using h)
theorem bF1:∀{ts:List TypeId} {l:List (DataW H)} {i:Nat} {t:TypeId} {d:DataW H},(DataW.weightsEach P ts l).all (· <= reachBytes)=true->ts[i]?=some t->l[i]?=some d->(d.weights P t).all (· <= reachBytes)=true
 |[],l,i,t,d,_,h,_=>by simp at h
 |t'::ts,[],i,t,d,_,_,h=>by simp at h
 |t'::ts,x::l,0,t,d,hw,ht,h=>by
  simp at h ht;subst h;subst ht
  simp only[DataW.weightsEach]at hw
  exact(all_append hw).1
 |t'::ts,x::l,i+1,t,d,hw,ht,h=>by
  simp only[DataW.weightsEach]at hw
  exact bF1 (all_append hw).2 (by simpa using ht) (by simpa using h)
theorem bTu{t:TypeId}{τ:Ty}(h:TyIs P t τ):P.cellsOf t=τ.size:=by
 obtain⟨i,z,hi,hs,_⟩:=h.info
 simp[Program.cellsOf,hi,hs]
theorem trod_enc{spare:Nat->Bool}{held:Bool}:∀(n:Nat) {t:TypeId} {τ:Ty},tyOk P n t τ=true->∀{fuel:Nat} {cs:List Value} {x:DataW H×List MemPlace},
  DataW.trod enc' P w 0 spare held fuel t cs=some x->(x.1.weights P t).all (· <= reachBytes)=true->∃y:τ.den,enc w (fun _=>False) τ y cs/\okD τ y:=by
 intro n
 induction n using Nat.strongRecOn with
 |ind n ih=>
 intro t τ hok fuel cs x hx hwt
 have hT:TyIs P t τ:=⟨n,hok⟩
 -- the fields of a struct
 have flds:∀(m:Nat),m<n->∀{fs:List Field} {off:Nat} {σ:Ty},bYo P m fs off σ=true->(∀(i:Nat) f,fs[i]?=some f->∃fu y,DataW.trod enc' P w 0 spare held fu f.type ((cs.drop f.offset).take (P.cellsOf f.type))=some y/\(y.1.weights P f.type).all (· <= reachBytes)=true)->cs.length=off+σ.size ->
   ∃y:σ.den,enc w (fun _=>False) σ y (cs.drop off)/\okD σ y:=by
  intro m
  induction m with
  |zero=>intro _ fs off σ h;simp[bYo]at h
  |succ m ihm=>
   intro hm fs off σ h hf hl
   unfold bYo at h
   split at h
   .rename_i σ f
    simp only[Bool.and_eq_true,beq_iff_eq]at h
    obtain⟨rfl,h2⟩:=h
    obtain⟨fu,y,h3,h4⟩:=hf 0 f rfl
    rw[bTu ⟨m,h2⟩,List.take_of_length_le (by rw[List.length_drop];omega)]at h3
    exact ih m (by omega) h2 h3 h4
   .rename_i f g r a b
    simp only[Bool.and_eq_true,beq_iff_eq]at h
    obtain⟨⟨rfl,h2⟩,h3⟩:=h
    obtain⟨fu,y,h4,h5⟩:=hf 0 f rfl
    obtain⟨u,g1,g2⟩:=ih m (by omega) h2 h4 h5
    obtain⟨v,e1,e2⟩:=ihm (by omega) h3 (fun i f' hi=>hf (i+1) f' (by simpa using hi)) (by simp only[Ty.size]at hl;omega)
    rw[bTu ⟨m,h2⟩]at g1
    exact⟨(u,v),⟨_,_,by rw[<-List.drop_drop,List.take_append_drop],g1,e1⟩,g2,e2⟩
   .cases h
 cases τ with
 |int κ=>
  obtain⟨m,rfl,rfl,hw⟩:=DataW.trod_int hT.intU hx
  exact⟨m,rfl,hw⟩
 |bool=>
  obtain⟨b,rfl,rfl⟩:=DataW.trod_bool hT.boolU hx
  exact⟨b,rfl,trivial⟩
 |list e=>
  cases n with
  |zero=>simp[tyOk]at hok
  |succ n=>
  have hok':=hok
  obtain⟨te,hu,hok2⟩:∃te,P.underlying t=some (.slice te)/\tyOk P n te e=true:=by
   unfold tyOk at hok'
   split at hok'
   .cases hok'
   .simp only[Bool.and_eq_true]at hok'
    obtain⟨_,hok'⟩:=hok'
    split at hok'
    .simp_all
    .simp_all
    .rename_i h1 h2;cases h1;exact⟨_,h2,hok'⟩
    .simp_all
    .cases hok'
  have hte:TyIs P te e:=⟨n,hok2⟩
  rcases DataW.trod_slice hu hx with⟨rfl,rfl⟩|⟨a,len,cap,elems,rest,m,_,rfl,rfl,hb,hl,hm,hlen,hel,hsp,hns⟩
  .exact⟨[],⟨none,0,rfl,Nat.le_refl _,fun _=>rfl,fun a h=>by cases h⟩,by simp,by simp⟩
  .simp only[DataW.weights,hu,List.all_cons,Bool.and_eq_true,decide_eq_true_eq]at hwt
   obtain⟨hw1,hw2⟩:=hwt
   have hw3:=(all_append hw2).1
   have hspot:0<len->a.spot=none:=fun hpos=>by
    have h1:=hel 0 hpos
    rw[List.getElem?_eq_getElem (show 0<elems.length by omega)]at h1
    obtain⟨ds,h2,_⟩:=Option.bind_eq_some_iff.1 h1
    obtain⟨_,h4,h5⟩:=World.cells?_some h2
    rw[bTu hte]at h4 h5
    have hp:=e.size_pos
    have h8:=h5 0 hp
    cases hs:a.spot with
    |none=>rfl
    |some s=>
     have:w.cell? ((a.add (0*e.size)).add 0)=none:=by
      simp only[Nat.zero_mul,Addr.add,if_true,World.cell?,hs]
      split<;>rfl
     rw[this]at h8
     have h9:ds[0]?≠none:=by rw[List.getElem?_eq_getElem (by omega)];simp
     exact absurd h8.symm h9
   have hadd:a.spot=none->∀k,a.add k=⟨a.block,a.off+k,none⟩:=fun hs k=>by
    unfold Addr.add
    split
    .rename_i h0;subst h0;cases a;simp_all
    .rfl
   obtain⟨l,hl1,hl2⟩:=cF9 (α:=e.den) (n:=len) (p:=fun i y=>(a.spot=none/\∃ds,enc w (fun _=>False) e y ds/\At w a.block (a.off+i*e.size) ds)/\okD e y) (fun i hi=>by
    have h1:=hel i hi
    have hi2:i<elems.length:=by omega
    rw[List.getElem?_eq_getElem hi2]at h1
    obtain⟨ds,h2,h3⟩:=Option.bind_eq_some_iff.1 h1
    obtain⟨_,h4,h5⟩:=World.cells?_some h2
    rw[bTu hte]at h4 h5
    obtain⟨y,h6,h7⟩:=ih n (by omega) hok2 h3 (bYi hw3 (i:=i) (by simp[hi2]))
    have hsp0:a.spot=none:=hspot (by omega)
    refine⟨y,⟨hsp0,ds,h6,fun j v hj=>?_⟩,h7⟩
    have hjl:j<e.size:=by rw[<-h4];exact(List.getElem?_eq_some_iff.1 hj).1
    have h8:=h5 j hjl
    rw[hj]at h8
    rw[<-h8]
    rw[hadd hsp0]
    simp only[Addr.add]
    split
    .rename_i h0;rw[h0,Nat.add_zero]
    .rfl)
   refine⟨l,⟨some a,cap,by rw[hl1],by rw[hl1];exact hl,by simp,fun a' ha i y hy=>?_⟩,?_,fun y hy=>?_⟩
   .cases ha
    obtain⟨h1,ds,h2,h3⟩:=(hl2 i y hy).1
    exact⟨h1,fun h=>h,ds,h2,h3⟩
   .have hb1:=hte.bytes
    have:len*1<=(elems.map (·.1)).length*P.bytesOf te+(rest.map (·.1)).length*P.bytesOf te:=by
     rw[List.length_map,hlen]
     have:=Nat.mul_le_mul_left len hb1
     omega
    rw[Nat.add_mul]at hw1
    have hr:reachBytes=140737488351232:=rfl
    show l.length<=_
    omega
   .obtain⟨i,hi⟩:=List.getElem?_of_mem hy
    exact(hl2 i y hi).2
 |pair a b=>
  cases n with
  |zero=>simp[tyOk]at hok
  |succ n=>
  have hok':=hok
  obtain⟨fs,hu,hok2⟩:∃fs,P.underlying t=some (.struct fs)/\bYo P n fs.toList 0 (.pair a b)=true:=by
   unfold tyOk at hok'
   split at hok'
   .cases hok'
   .simp only[Bool.and_eq_true]at hok'
    obtain⟨_,hok'⟩:=hok'
    split at hok'
    .simp_all
    .simp_all
    .simp_all
    .rename_i h1 h2;cases h1;exact⟨_,h2,hok'⟩
    .cases hok'
  obtain⟨xs,m,_,rfl,hcl,hxl,hxs⟩:=DataW.trod_struct hu hx
  simp only[DataW.weights,hu]at hwt
  rw[bTu hT]at hcl
  have:=flds n (by omega) hok2 (fun i f hi=>by
   have hi':fs[i]?=some f:=by simpa using hi
   have h1:=hxs i f hi'
   have hil:i<xs.length:=by rw[hxl];exact(Array.getElem?_eq_some_iff.1 hi').1
   rw[List.getElem?_eq_getElem hil]at h1
   exact⟨m,xs[i],h1,bF1 hwt (i:=i) (by simp[hi']) (by simp[hil])⟩) (by rw[hcl,Nat.zero_add])
  simpa using this
theorem vrep_of{base:Nat}{t:TypeId}{τ:Ty}(h:TyIs P t τ){v:Value}(hv:Value.okWide P w .any base t v):Vrep τ v v.cells.toList:=by
 cases τ with
 |int κ=>
  have hu:=h.intU
  simp only[Value.okWide,hu,Cell.okWide,Cell.ok]at hv
  cases v<;>simp_all [Vrep,Value.cells]
 |bool=>
  have hu:=h.boolU
  simp only[Value.okWide,hu,Cell.okWide,Cell.ok]at hv
  cases v<;>simp_all [Vrep,Value.cells]
 |list e=>
  obtain⟨te,hu,_⟩:=h.listU
  simp only[Value.okWide,hu,Cell.okWide,Cell.ok]at hv
  cases v<;>simp_all [Vrep,Value.cells]
 |pair a b=>
  obtain⟨fs,hu,_⟩:=h.pairU
  simp only[Value.okWide,hu]at hv
  obtain⟨cs,rfl,_⟩:=hv
  simp[Vrep,Value.cells]
theorem bSy{spare:Nat->Bool}{held:Bool}{base:Nat}{t:TypeId}{τ:Ty}(h:TyIs P t τ){v:Value}(hv:Value.okWide P w .any base t v){d:DataW H}{ps:List MemPlace}(hd:DataW.Trod enc' P w 0 spare held t v d ps)(hw:(d.weights P t).all (· <= reachBytes)=true):
  ∃y:τ.den,dataV w (fun _=>False) τ y v/\okD τ y:=by
 obtain⟨n,hn⟩:=h.ok
 obtain⟨fuel,hf⟩:=hd
 obtain⟨y,h1,h2⟩:=trod_enc n hn hf hw
 exact⟨y,⟨_,vrep_of h hv,h1⟩,h2⟩
theorem bQ2{bad:Nat->Prop}{w w':World}(h:Same bad w w')(hb:∀b,¬bad b):Go.RowKit.Below w.heap.size w w':=
 ⟨h.st.os,h.st.tape,h.st.output,h.1,fun k hk=>h.2 k hk (hb k)⟩
end
end
end Go.Proofs.YtfjpfjnepdhnaaaGreat.R

