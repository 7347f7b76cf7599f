/- . -/
import Derived.Test.YtjkoadoekaplpaaGreatW3
import Derived.Test.YtjkoadoekaplpaaGreatS
namespace Go.Proofs.YtjkoadoekaplpaaGreat
open Go Go.RowKit Go.Proofs.YtjkoadoekaplpaaGreat.R
set_option linter.unusedVariables false
set_option linter.unusedSimpArgs false
section
abbrev LP:=List (Int×Int)
abbrev Circ:=Int×LP×LP×List Int×List Int
def circS:Sh:=.agg (.d (.int .i64)) (.agg (.d (.list (.pair (.int .i64) (.int .i64)))) (.agg (.d (.list (.pair (.int .i64) (.int .i64)))) (.agg (.d (.list (.int .i64))) (.d (.list (.int .i64))))))
def bCk(i:Int)(l a:LP)(p q:List Int):AV:=.agg [.d (.int .i64) i,.d (.list (.pair (.int .i64) (.int .i64))) l,.d (.list (.pair (.int .i64) (.int .i64))) a,.d (.list (.int .i64)) p,.d (.list (.int .i64)) q]
def bYd(N:Int)(l:List Int):Bool:=l.all fun x=>decide (0<=x)&&decide (x/2<N)
def givB(i:Int):Nat->List Int->Bool
 |_,[]=>true
 |v,x::r=>decide (-1<=x)&&decide (x<2*(v:Int))&&(decide (x<0)||decide (i<(v:Int)))&&givB i (v+1) r
def gatB(gate:Int):Nat->LP->Bool
 |_,[]=>true
 |k,g::r=>decide (0<=g.2)&&decide (g.2<=g.1)&&decide (g.1/2<gate+(k:Int))&&gatB gate (k+1) r
theorem bTe{N:Int}{l:List Int}(h:bYd N l=true)(j:Nat)(x:Int)(hx:l[j]?=some x):0<=x/\x/2<N:=by
 have:=List.all_eq_true.1 h x (List.mem_of_getElem? hx)
 simpa using this
theorem bYo{i:Int}:∀{l:List Int} {v:Nat},givB i v l=true->∀(j:Nat) (x:Int),l[j]?=some x -> -1<=x/\x<2*((v+j:Nat):Int)/\(0<=x->i<((v+j:Nat):Int))
 |[],v,h,j,x,hx=>by simp at hx
 |y::r,v,h,j,x,hx=>by
  simp only[givB,Bool.and_eq_true,Bool.or_eq_true,decide_eq_true_eq]at h
  obtain⟨⟨⟨h1,h2⟩,h3⟩,h4⟩:=h
  cases j with
  |zero=>
   simp only[List.getElem?_cons_zero,Option.some.injEq]at hx
   subst hx
   exact⟨h1,h2,fun h=>by rcases h3 with h3|h3;omega;exact h3⟩
  |succ j=>
   have:=bYo h4 j x (by simpa using hx)
   rw[show v+(j+1)=v+1+j by omega]
   exact this
theorem bYq{gate:Int}:∀{l:LP} {k:Nat},gatB gate k l=true->∀(j:Nat) (g:Int×Int),l[j]?=some g->0<=g.2/\g.2<=g.1/\g.1/2<gate+((k+j:Nat):Int)
 |[],k,h,j,g,hg=>by simp at hg
 |x::r,k,h,j,g,hg=>by
  simp only[gatB,Bool.and_eq_true,decide_eq_true_eq]at h
  obtain⟨⟨⟨h1,h2⟩,h3⟩,h4⟩:=h
  cases j with
  |zero=>
   simp only[List.getElem?_cons_zero,Option.some.injEq]at hg
   subst hg
   exact⟨h1,h2,h3⟩
  |succ j=>
   have:=bYq h4 j g (by simpa using hg)
   rw[show k+(j+1)=k+1+j by omega]
   exact this
def bC3(i:Int)(l:LP):Nat:=(i+(l.length:Int)+1).toNat
def bT5(i:Int)(l a:LP)(p q g:List Int):Bool:=
 decide (0<=i)&&decide (i<=1000)&&decide (l.length<=1000)&&decide (a.length<=1000)&&decide (p.length<=1000)&&decide (q.length<=1000)&&decide (g.length=bC3 i l+a.length) &&
 (gatB (bC3 i l:Int) 0 a&&givB i 0 g&&bYd (g.length:Int) (l.map Prod.fst)&&bYd (g.length:Int) p&&bYd (g.length:Int) q)
def bNg(i:Int)(l a:LP)(g:List Int):List Int×LP:=runB (2*(bC3 i l:Int)) (bC3 i l) a g g.length
def cFu(i:Int)(l a:LP)(p q g:List Int):Circ×List Int×Int:=
 ((i,l.map (fun x=>(atT (bNg i l a g).1 x.1,x.2)),(bNg i l a g).2,p.map (atT (bNg i l a g).1),q.map (atT (bNg i l a g).1)),(bNg i l a g).1,0)
def bJ7(C:bAu):List AV->Option (Circ×List Int×Int)
 |[.agg [.d (.int .i64) i,.d (.list (.pair (.int .i64) (.int .i64))) l,.d (.list (.pair (.int .i64) (.int .i64))) a,.d (.list (.int .i64)) p,.d (.list (.int .i64)) q],.d (.list (.int .i64)) g]=>
  match C 44 [bCk i l a p q] [.d (.int .i64),.d (.int .i64)]with
  |some r=>if(show Int×Int from r)=((i+(List.length (α:=Int×Int) l:Int)+(List.length (α:=Int×Int) a:Int)),(0:Int))/\bT5 i l a p q g=true then some (cFu i l a p q g) else none
  |none=>none
 |_=>none
def cFt(C:bAu)(xs:List AV):(s:List Sh)->Option (dens s)
 |[.agg (.d (.int .i64)) (.agg (.d (.list (.pair (.int .i64) (.int .i64)))) (.agg (.d (.list (.pair (.int .i64) (.int .i64)))) (.agg (.d (.list (.int .i64))) (.d (.list (.int .i64)))))),.d (.list (.int .i64)),.d (.int .i64)]=>bJ7 C xs
 |_=>none
theorem bYz{C:bAu}{Cn:Nat->bAu}(h:Near C Cn){xs:List AV}{z:Circ×List Int×Int}(hz:bJ7 C xs=some z):∃n,∀m,n<=m->bJ7 (Cn m) xs=some z:=by
 unfold bJ7 at hz
 split at hz
 .split at hz
  .rename_i r hr
   obtain⟨n,hn⟩:=h _ _ _ _ hr
   refine⟨n,fun m hm=>?_⟩
   simp only[bJ7,hn m hm]
   exact hz
  .cases hz
 .cases hz
def cC5:HK where
 run:=cFt
 near:=by
  intro C Cn h xs s z hz
  unfold cFt at hz
  split at hz
  .exact bYz h hz
  .cases hz
theorem bSf{w:World}{bad:Nat->Prop}{l:List Int}{b o n c:Nat}(hn:n=l.length)(hc:n<=c)(hb:¬bad b)(hf:∀(j:Nat) (x:Int),l[j]?=some x->w.cell? ⟨b,o+j,none⟩=some (.int .i64 x)):
  VR0 noβ [] w bad (.d (.list (.int .i64)) l) (.slice (some ⟨b,o,none⟩) n c) []:=by
 subst hn
 refine⟨rfl,_,rfl,_,_,rfl,hc,by simp,fun a ha i x hx=>?_⟩
 cases ha
 refine⟨rfl,hb,[.int .i64 x],rfl,fun j v hj=>?_⟩
 cases j with
 |zero=>simp at hj;subst hj;simpa[Go.Proofs.YtjkoadoekaplpaaGreat.R.Ty.size]using hf i x hx
 |succ j=>simp at hj
theorem bLj{w:World}{bad:Nat->Prop}{e:Go.Proofs.YtjkoadoekaplpaaGreat.R.Ty}{A:Option Addr}:VR0 noβ [] w bad (.d (.list e) []) (.slice A 0 0) []:=
 ⟨rfl,_,rfl,_,_,rfl,Nat.le_refl _,fun _=>rfl,fun a ha i x hx=>by simp at hx⟩
theorem cA0{w:World}{bad:Nat->Prop}{l:LP}{b o n c:Nat}(hn:n=l.length)(hc:n<=c)(hb:¬bad b)(hf:∀(j:Nat) (x:Int×Int),l[j]?=some x->w.cell? ⟨b,o+j*2,none⟩=some (.int .i64 x.1)/\w.cell? ⟨b,o+j*2+1,none⟩=some (.int .i64 x.2)):
  VR0 noβ [] w bad (.d (.list (.pair (.int .i64) (.int .i64))) l) (.slice (some ⟨b,o,none⟩) n c) []:=by
 subst hn
 refine⟨rfl,_,rfl,_,_,rfl,hc,by simp,fun a ha i x hx=>?_⟩
 cases ha
 obtain⟨h1,h2⟩:=hf i x hx
 refine⟨rfl,hb,[.int .i64 x.1,.int .i64 x.2],⟨[.int .i64 x.1],[.int .i64 x.2],rfl,rfl,rfl⟩,fun j v hj=>?_⟩
 match j with
 |0=>simp at hj;subst hj;exact h1
 |1=>simp at hj;subst hj;exact h2
 |j+2=>simp at hj
theorem cCz{base top:Nat}{w:World}{n:Nat}{l:List Int}{v:Value}{bad:Nat->Prop}(h:Cl base top w 1 n l v)(hn:n=l.length)(hb:∀b,base<=b->¬bad b):VR0 noβ [] w bad (.d (.list (.int .i64)) l) v []:=by
 rcases h with⟨_,rfl,A,rfl⟩|⟨b,o,c,rfl,h2,h3,h4,h5⟩
 .exact bLj
 .exact bSf hn h2 (hb b h4.1) fun j x hx=>h5.cell hx
theorem bWk(l:LP):(bF4 l).length=l.length*2:=by
 induction l with
 |nil=>rfl
 |cons x r ih=>simp only[bF4,List.flatMap_cons,List.length_append,List.length_cons,List.length_nil]at ih ⊢;omega
theorem cNo{base top:Nat}{w:World}{n:Nat}{l:LP}{v:Value}{bad:Nat->Prop}(h:Cl base top w 2 n (bF4 l) v)(hn:n=l.length)(hb:∀b,base<=b->¬bad b):VR0 noβ [] w bad (.d (.list (.pair (.int .i64) (.int .i64))) l) v []:=by
 rcases h with⟨_,h,A,rfl⟩|⟨b,o,c,rfl,h2,h3,h4,h5⟩
 .have:l=[]:=List.eq_nil_of_length_eq_zero (by have:=congrArg List.length h;rw[bWk]at this;simp only[List.length_nil]at this;omega)
  subst this
  exact bLj
 .exact cA0 hn h2 (hb b h4.1) fun j x hx=>⟨h5.cell (bGr l j x hx).1,by have:=h5.cell (bGr l j x hx).2;rw[<-Nat.add_assoc]at this;exact this⟩
theorem bQ0:∀(l:LP) (j:Nat) (g:Int×Int),l[j]?=some g->(bFn l)[j*2]?=some (.int .i64 g.1)/\(bFn l)[j*2+1]?=some (.int .i64 g.2)
 |[],j,g,h=>by simp at h
 |a::r,0,g,h=>by simp at h;subst h;simp[bFn]
 |a::r,j+1,g,h=>by
  obtain⟨h1,h2⟩:=bQ0 r j g (by simpa using h)
  have e:bFn (a::r) = .int .i64 a.1 :: .int .i64 a.2::bFn r:=by simp[bFn]
  rw[e,show(j+1)*2=j*2+1+1 by omega]
  exact⟨by simpa using h1,by simpa using h2⟩
theorem cJu{w:World}{base:Nat}{l:LP}{v:Value}{bad:Nat->Prop}(h:w.ownsRow base 85 2 v l.length (bFn l))(hb:∀b,v.ownBlock=some b->¬bad b):VR0 noβ [] w bad (.d (.list (.pair (.int .i64) (.int .i64))) l) v []:=by
 rcases h.2 with⟨rfl,hn⟩|⟨g,cap,cur,rfl,h2,h3,h4,h5,h6,h7⟩
 .have:l=[]:=List.eq_nil_of_length_eq_zero hn
  subst this
  exact bLj
 .have hc:∀(j:Nat) (v:Value),(bFn l)[j]?=some v->w.cell? ⟨g,0+j,none⟩=some v:=fun j v hv=>by
   rw[<-h7,List.getElem?_take]at hv
   split at hv
   .rw[cell_of h3,Nat.zero_add];simpa using hv
   .cases hv
  exact cA0 rfl h4 (hb g rfl) fun j x hx=>⟨hc _ _ (bQ0 l j x hx).1,hc _ _ (bQ0 l j x hx).2⟩
theorem ints_at{w:World}{bad:Nat->Prop}{l:List Int}{v:Value}{bs:List Nat}(h:VR0 noβ [] w bad (.d (.list (.int .i64)) l) v bs):
  ∃A c,v = .slice A l.length c/\(A=none->l=[])/\∀(j:Nat) (x:Int),l[j]?=some x->∃b o,A=some ⟨b,o,none⟩/\b<w.heap.size/\w.cell? ⟨b,o+j,none⟩=some (.int .i64 x):=by
 obtain⟨A,c,rfl,hA,hr⟩:=bMx h
 refine⟨A,c,rfl,hA,fun j x hx=>?_⟩
 cases A with
 |none=>rw[hA rfl]at hx;simp at hx
 |some ad=>
  obtain⟨hsp,ds,he,hat⟩:=hr ad rfl j x hx
  obtain⟨blk,off,spot⟩:=ad
  cases hsp
  simp only[enc]at he
  subst he
  have t0:=hat 0 _ rfl
  simp only[Go.Proofs.YtjkoadoekaplpaaGreat.R.Ty.size,Nat.mul_one,Nat.add_zero]at t0
  exact⟨blk,off,rfl,World.block_lt_of_cell? _ _ t0,t0⟩
theorem bJu{w:World}{bad:Nat->Prop}{l:LP}{v:Value}{bs:List Nat}(h:VR0 noβ [] w bad (.d (.list (.pair (.int .i64) (.int .i64))) l) v bs):
  ∃A c,v = .slice A l.length c/\(A=none->l=[])/\∀(j:Nat) (x:Int×Int),l[j]?=some x->∃b o,A=some ⟨b,o,none⟩/\b<w.heap.size/\w.cell? ⟨b,o+j*2,none⟩=some (.int .i64 x.1)/\w.cell? ⟨b,o+j*2+1,none⟩=some (.int .i64 x.2):=by
 obtain⟨A,c,rfl,hA,hr⟩:=bMx h
 refine⟨A,c,rfl,hA,fun j x hx=>?_⟩
 cases A with
 |none=>rw[show l=[] from hA rfl]at hx;simp at hx
 |some ad=>
  obtain⟨hsp,ds,he,hat⟩:=hr ad rfl j x hx
  obtain⟨blk,off,spot⟩:=ad
  cases hsp
  obtain⟨d1,d2,rfl,he1,he2⟩:=he
  simp only[enc]at he1 he2
  subst he1;subst he2
  have t0:=hat 0 _ rfl
  have t1:=hat 1 _ rfl
  exact⟨blk,off,rfl,World.block_lt_of_cell? _ _ t0,t0,t1⟩
end
section
def ClOk(g:FuncId)(e:Go.Proofs.YtjkoadoekaplpaaGreat.R.Ty):Prop:=∀(bad:Nat->Prop) (w:World) (l:List e.den) (v:Value),Reads w bad e l v->l.length<=LIM ->
  Calls Tryz.prog g #[v] w fun en w'=>∃u bs,en = .returned u/\Same (fun _=>False) w w'/\bs.Nodup/\(∀b∈bs,b<w'.heap.size/\w.heap.size<=b) /\
   ∀bad',(∀b,b<w.heap.size->bad' b->bad b)->newV w' bad' e l u bs
theorem bT1{w W:World}{bad:Nat->Prop}{τ:Go.Proofs.YtjkoadoekaplpaaGreat.R.Ty}{x:τ.den}{v:Value}(hb:Below w.heap.size w W)(h:cA4 w bad τ x v):cA4 W bad τ x v:=
 bW0 (bDn hb) (fun _ _ h=>h.elim) (fun b _ h=>h) h
theorem cFo(hC:ClOk 41 (.int .i64)){w:World}{bad:Nat->Prop}{l:List Int}{A:Option Addr}{c:Nat}{bs:List Nat}(h:VR0 noβ [] w bad (.d (.list (.int .i64)) l) (.slice A l.length c) bs)(hl:l.length<=1000)(W:World)(hb:Below w.heap.size w W):
  Calls Tryz.prog 41 #[.slice A l.length c] W (bHy W 1 l.length l):=by
 obtain⟨cs,hv,he⟩:=bT1 hb h.2
 have hv':cs=[.slice A l.length c]:=hv
 subst hv'
 refine(hC bad W l _ (bMc he) (by unfold LIM;omega)).mono ?_
 rintro e w' ⟨u,bs,rfl,hs,hn,hbs,hnew⟩
 refine⟨u,rfl,bG4 hs (fun _ h=>h),?_⟩
 rcases hnew (fun _=>False) (fun _ _ h=>h.elim) with⟨⟨A,rfl⟩,rfl,_⟩|⟨b,o,c,rfl,rfl,cells,elem,hh,hc1,hc2,hr⟩
 .exact .inl ⟨rfl,rfl,A,rfl⟩
 .refine .inr ⟨b,o,c,rfl,hc1.1,hc1.2,⟨(hbs b (by simp)).2,(hbs b (by simp)).1⟩,cells,elem,hh,by simpa[Go.Proofs.YtjkoadoekaplpaaGreat.R.Ty.size]using hc2,fun j x hx=>?_⟩
  obtain⟨ds,h1,h2⟩:=hr j x hx
  simp only[enc]at h1
  subst h1
  have:=h2 0 _ rfl
  simpa[Go.Proofs.YtjkoadoekaplpaaGreat.R.Ty.size]using this
theorem clone2(hC:ClOk 39 (.pair (.int .i64) (.int .i64))){w:World}{bad:Nat->Prop}{l:LP}{A:Option Addr}{c:Nat}{bs:List Nat}(h:VR0 noβ [] w bad (.d (.list (.pair (.int .i64) (.int .i64))) l) (.slice A l.length c) bs)(hl:l.length<=1000)(W:World)(hb:Below w.heap.size w W):
  Calls Tryz.prog 39 #[.slice A l.length c] W (bHy W 2 l.length (bF4 l)):=by
 obtain⟨cs,hv,he⟩:=bT1 hb h.2
 have hv':cs=[.slice A l.length c]:=hv
 subst hv'
 refine(hC bad W l _ (bMc he) (by unfold LIM;omega)).mono ?_
 rintro e w' ⟨u,bs,rfl,hs,hn,hbs,hnew⟩
 refine⟨u,rfl,bG4 hs (fun _ h=>h),?_⟩
 rcases hnew (fun _=>False) (fun _ _ h=>h.elim) with⟨⟨A,rfl⟩,rfl,_⟩|⟨b,o,c,rfl,rfl,cells,elem,hh,hc1,hc2,hr⟩
 .exact .inl ⟨rfl,rfl,A,rfl⟩
 .refine .inr ⟨b,o,c,rfl,hc1.1,hc1.2,⟨(hbs b (by simp)).2,(hbs b (by simp)).1⟩,cells,elem,hh,by simpa[Go.Proofs.YtjkoadoekaplpaaGreat.R.Ty.size]using hc2,fun j x hx=>?_⟩
  have hj:j/2<l.length:=by
   have:=(List.getElem?_eq_some_iff.1 hx).1
   rw[bWk]at this
   omega
  obtain⟨g,hg⟩:∃g,l[j/2]?=some g:=⟨_,List.getElem?_eq_getElem hj⟩
  obtain⟨ds,h1,h2⟩:=hr _ g hg
  obtain⟨d1,d2,rfl,he1,he2⟩:=h1
  simp only[enc]at he1 he2
  subst he1;subst he2
  obtain⟨p1,p2⟩:=bGr l _ g hg
  have t0:=h2 0 _ rfl
  have t1:=h2 1 _ rfl
  simp only[Go.Proofs.YtjkoadoekaplpaaGreat.R.Ty.size,Nat.add_zero]at t0 t1
  rcases Nat.mod_two_eq_zero_or_one j with hm|hm
  .have:j/2*2=j:=by omega
   rw[this]at p1
   rw[hx]at p1
   cases p1
   rw[show o+j/2*(1+1)=o+j by omega]at t0
   exact t0
  .have:j/2*2+1=j:=by omega
   rw[this]at p2
   rw[hx]at p2
   cases p2
   rw[show o+j/2*(1+1)+1=o+j by omega]at t1
   exact t1
theorem bYw{w:World}{bad:Nat->Prop}{i:Int}{l a:LP}{p q:List Int}{v:Value}{bs:List Nat}(h:VR2 noβ [] w bad (bCk i l a p q) v bs):bs=[]/\∃v1 v2 v3 v4,v = .agg #[.int .i64 i,v1,v2,v3,v4] /\
  VR0 noβ [] w bad (.d (.list (.pair (.int .i64) (.int .i64))) l) v1 []/\VR0 noβ [] w bad (.d (.list (.pair (.int .i64) (.int .i64))) a) v2 []/\VR0 noβ [] w bad (.d (.list (.int .i64)) p) v3 []/\VR0 noβ [] w bad (.d (.list (.int .i64)) q) v4 []:=by
 obtain rfl:bs=[]:=bRg h rfl
 obtain⟨us,rfl,hus⟩:=h
 obtain⟨u1,us1,d1,ds1,rfl,hd1,k1,hus⟩:=hus.cons'
 obtain⟨u2,us2,d2,ds2,rfl,hd2,k2,hus⟩:=hus.cons'
 obtain⟨u3,us3,d3,ds3,rfl,hd3,k3,hus⟩:=hus.cons'
 obtain⟨u4,us4,d4,ds4,rfl,hd4,k4,hus⟩:=hus.cons'
 obtain⟨u5,us5,d5,ds5,rfl,hd5,k5,hus⟩:=hus.cons'
 obtain⟨rfl,rfl⟩:=hus.nil'
 obtain⟨rfl,rfl⟩:=bBc (β:=noβ) (ob:=[]) (w:=w) (show VR2 noβ [] w _ (.d (.int .i64) i) u1 d1 from k1)
 obtain rfl:=k2.1;obtain rfl:=k3.1;obtain rfl:=k4.1;obtain rfl:=k5.1
 exact⟨rfl,u2,u3,u4,u5,rfl,k2,k3,k4,k5⟩
theorem circ_mk{w:World}{bad:Nat->Prop}{i:Int}{l a:LP}{p q:List Int}{v1 v2 v3 v4:Value}
  (k2:VR0 noβ [] w bad (.d (.list (.pair (.int .i64) (.int .i64))) l) v1 []) (k3:VR0 noβ [] w bad (.d (.list (.pair (.int .i64) (.int .i64))) a) v2 []) (k4:VR0 noβ [] w bad (.d (.list (.int .i64)) p) v3 []) (k5:VR0 noβ [] w bad (.d (.list (.int .i64)) q) v4 []) :
  VR1 noβ [] w bad (bCk i l a p q) (.agg #[.int .i64 i,v1,v2,v3,v4]) []:=
 ⟨[.int .i64 i,v1,v2,v3,v4],rfl,Vs.cons (b:=[]) (show VR0 noβ [] w bad (.d (.int .i64) i) (.int .i64 i) [] from⟨rfl,_,rfl,rfl⟩) (Vs.cons (b:=[]) k2 (Vs.cons (b:=[]) k3 (Vs.cons (b:=[]) k4 (Vs.cons (b:=[]) k5 Vs.nil))))⟩
theorem bKw{w W:World}{bad:Nat->Prop}{i:Int}{l a:LP}{p q:List Int}{v:Value}(hb:Below w.heap.size w W)(h:VR2 noβ [] w bad (bCk i l a p q) v []):VR2 noβ [] W (fun b=>False\/b∈([]:List Nat)) (bCk i l a p q) v []:=
 bFr (bDn hb) (fun _ _ h=>h.elim) (fun b _ h=>by rcases h with h|h;exact h.elim;cases h) (fun _ h=>by cases h) h
theorem cHo{i:Int}{l a:LP}{p q g:List Int}(h:bT5 i l a p q g=true):
  0<=i/\i<=1000/\l.length<=1000/\a.length<=1000/\p.length<=1000/\q.length<=1000/\g.length=bC3 i l+a.length /\
  gatB (bC3 i l:Int) 0 a=true/\givB i 0 g=true/\bYd (g.length:Int) (l.map Prod.fst)=true/\bYd (g.length:Int) p=true/\bYd (g.length:Int) q=true:=by
 simp only[bT5,Bool.and_eq_true,decide_eq_true_eq]at h
 obtain⟨⟨⟨⟨⟨⟨⟨h1,h2⟩,h3⟩,h4⟩,h5⟩,h6⟩,h7⟩,⟨⟨⟨⟨h8,h9⟩,h10⟩,h11⟩,h12⟩⟩:=h
 exact⟨h1,h2,h3,h4,h5,h6,h7,h8,h9,h10,h11,h12⟩
set_option maxHeartbeats 1000000 in
theorem cHn{E:Env}(h44:bAa E.sg 44=some ([.ro],[.d (.int .i64),.d (.int .i64)]))(hC1:ClOk 39 (.pair (.int .i64) (.int .i64)))(hC2:ClOk 41 (.int .i64)){C:bAu}(hC:bC2 Tryz.prog E C)
  (i:Int) (l a:LP) (p q g:List Int) (h44a:C 44 [bCk i l a p q] [.d (.int .i64),.d (.int .i64)]=some (i+(l.length:Int)+(a.length:Int),(0:Int))) (hB:bT5 i l a p q g=true)
  (b0:Nat->Prop) (w:World) (vs:List Value) (bs:List Nat) (hvs:Vs (VR2 noβ [] w (fun b=>b0 b\/b∈bs)) [bCk i l a p q,.d (.list (.int .i64)) g] vs bs) (hb0:∀b,b0 b->b<w.heap.size) :
  Calls Tryz.prog 38 vs.toArray w fun e w'=>∃v,e = .returned v/\bMo b0 [.ro,.ro] [circS,.d (.list (.int .i64)),.d (.int .i64)] vs bs w w' (cFu i l a p q g) v:=by
 obtain⟨i0,i1,l1,a1,p1,q1,gl,hga,hgi,hL,hP,hQ⟩:=cHo hB
 obtain⟨v1,vs1,b1,bs1,rfl,rfl,g1,hvs1⟩:=hvs.cons'
 obtain⟨v2,vs2,b2,bs2,rfl,rfl,g2,hvs2⟩:=hvs1.cons'
 obtain⟨rfl,rfl⟩:=hvs2.nil'
 obtain⟨rfl,u1,u2,u3,u4,rfl,k1,k2,k3,k4⟩:=bYw g1
 obtain rfl:b2=[]:=bRg g2 rfl
 obtain⟨A1,c1,rfl,hA1,at1⟩:=bJu k1
 obtain⟨A2,c2,rfl,hA2,at2⟩:=bJu k2
 obtain⟨A3,c3,rfl,hA3,at3⟩:=ints_at k3
 obtain⟨A4,c4,rfl,hA4,at4⟩:=ints_at k4
 obtain⟨A5,c5,rfl,hA5,at5⟩:=ints_at (show VR0 noβ [] w _ (.d (.list (.int .i64)) g) v2 [] from g2)
 have hgate:(bC3 i l:Int)=i+(l.length:Int)+1:=by unfold bC3;omega
 have hg0:0<g.length:=by omega
 obtain⟨Gb,Go,rfl,hGl,_⟩:=at5 0 _ (List.getElem?_eq_getElem hg0)
 have at5':∀(k:Nat) (x:Int),g[k]?=some x->w.cell? ⟨Gb,Go+k,none⟩=some (.int .i64 x):=fun k x hx=>by
  obtain⟨b,o,e,_,h⟩:=at5 k x hx
  cases e;exact h
 have hVs:VarsDo i l.length a.length A1 A2 c1 c2 (.slice A3 p.length c3) (.slice A4 q.length c4) w:=by
  intro W hb
  refine((hC 44 _ _ h44 _ _ h44a).2 (fun _=>False) W _ [] (.cons (b:=[]) (bKw hb g1) .nil) List.nodup_nil (by simp) (fun _ h=>h.elim)).mono fun e w' h=>?_
  obtain⟨v,rfl,hres⟩:=h
  obtain⟨e1,e2,_,_,hv,_⟩:=hres.res
  obtain⟨us,rfl,hu⟩:=hv
  obtain⟨x1,y1,m1,n1,rfl,_,j1,hu⟩:=hu.cons'
  obtain⟨x2,y2,m2,n2,rfl,_,j2,hu⟩:=hu.cons'
  obtain⟨rfl,_⟩:=hu.nil'
  obtain⟨rfl,-⟩:=bBc (β:=noβ) (ob:=[]) (w:=w') (show VR2 noβ [] w' _ (.d (.int .i64) (i+(l.length:Int)+(a.length:Int))) x1 m1 from j1)
  obtain⟨rfl,-⟩:=bBc (β:=noβ) (ob:=[]) (w:=w') (show VR2 noβ [] w' _ (.d (.int .i64) 0) x2 m2 from j2)
  exact⟨rfl,bG4 hres.same (by simp)⟩
 have hgD:∀v,v<g.length->g[v]?=some (g.getD v 0):=fun v hv=>by
  rw[List.getElem?_eq_getElem hv];simp[List.getD,List.getElem?_eq_getElem hv]
 have hOk:BOk g.length (bC3 i l) a g:=⟨gl,fun v hv=>by have:=bYo hgi v _ (hgD v hv);rw[Nat.zero_add]at this;exact⟨this.2.1,this.1⟩,
  fun k x hx=>by have:=bYq hga k x hx;rw[Nat.zero_add]at this;exact this,by omega,by unfold bC3 at gl;omega,rfl,a1⟩
 refine(cHm i l.length c1 c2 p.length c3 q.length c4 A1 A2 A3 A4 a g Gb Go c5 g.length (bC3 i l) l p q w l1 i0 i1 hOk hgate hVs hGl at5'
  (fun v hv h=>by have:=bYo hgi v _ (hgD v hv);rw[Nat.zero_add]at this;exact this.2.2 h) at2 rfl rfl rfl p1 q1
  (fun j x hx=>⟨bTe hL j x.1 (by rw[List.getElem?_map,hx];rfl),by obtain⟨b,o,e1,e2,e3,_⟩:=at1 j x hx;exact⟨b,o,e1,e2,e3⟩⟩)
  (fun j x hx=>⟨bTe hP j x hx,at3 j x hx⟩) (fun j x hx=>⟨bTe hQ j x hx,at4 j x hx⟩)
  (clone2 hC1 k1 l1) (cFo hC2 k3 p1) (cFo hC2 k4 q1)).mono ?_
 rintro e w' ⟨t1A,t1c,t3A,t3c,t4A,t4c,va,T,R0,m1,m2,L0,rfl,hbel,o1,o2,o3,o4,o5,z1,z3,z4,zr,⟨base,zo⟩,zv⟩
 have hnb:∀b,w.heap.size<=b->¬((fun b=>b0 b\/b∈([]:List Nat)++[]) b):=fun b hb h=>by
  rcases h with h|h
  .have:=hb0 b h;omega
  .cases h
 have y1:=cNo (bad:=fun b=>b0 b\/b∈([]:List Nat)++[]) z1 (by rw[List.length_map]) fun b hb=>hnb b (by omega)
 have y2:=cJu (bad:=fun b=>b0 b\/b∈([]:List Nat)++[]) zo fun b hb=>hnb b (by have:=zv b hb;omega)
 have y3:=cCz (bad:=fun b=>b0 b\/b∈([]:List Nat)++[]) z3 (by rw[List.length_map]) fun b hb=>hnb b (by omega)
 have y4:=cCz (bad:=fun b=>b0 b\/b∈([]:List Nat)++[]) z4 (by rw[List.length_map]) fun b hb=>hnb b (by omega)
 have y5:VR0 noβ [] w' (fun b=>b0 b\/b∈([]:List Nat)++[]) (.d (.list (.int .i64)) (bNg i l a g).1) (.slice (some ⟨T,0,none⟩) g.length g.length) []:=bSf (by unfold bNg;rw[bDw]) (Nat.le_refl _) (hnb T (by omega)) fun j x hx=>zr.cell hx
 refine⟨_,rfl,⟨(bDn hbel).mono fun _ _ h=>h.elim,[],[],by simp,by simp,?_,.nil⟩⟩
 exact⟨[_,_,.int .i64 0],rfl,Vs.cons (b:=[]) (circ_mk (i:=i) y1 y2 y3 y4) (Vs.cons (b:=[]) (a:=.d (.list (.int .i64)) (bNg i l a g).1) y5 (.cons (b:=[]) (a:=.d (.int .i64) 0) (bFh (β:=noβ) (ob:=[]) .i64 0) .nil))⟩
theorem buildDo{E:Env}(h38:bAa E.sg 38=some ([.ro,.ro],[circS,.d (.list (.int .i64)),.d (.int .i64)]))(h44:bAa E.sg 44=some ([.ro],[.d (.int .i64),.d (.int .i64)]))
  (hC1:ClOk 39 (.pair (.int .i64) (.int .i64))) (hC2:ClOk 41 (.int .i64)):HkDo Tryz.prog E 38 cC5:=by
 intro C hC ms rs hsg xs r hans b0 w vs bs hvs hnd hbs hb0
 rw[h38]at hsg
 cases hsg
 have hans':bJ7 C xs=some r:=hans
 clear hans
 unfold bJ7 at hans'
 split at hans'
 .split at hans'
  .rename_i r44 h44a
   split at hans'
   .rename_i hcond
    obtain⟨hr44,hB⟩:=hcond
    have h44b:=h44a.trans (congrArg some hr44)
    cases hans'
    exact cHn h44 hC1 hC2 hC _ _ _ _ _ _ h44b hB b0 w vs bs hvs hb0
   .cases hans'
  .cases hans'
 .cases hans'
end
section
def nvOf(C:bAu)(i:Int)(l a:LP)(p q:List Int)(b:Int):Int->Int->Option (Bool×Int):=
 fun x y=>C 34 [bCk i l a p q,.d (.int .i64) x,.d (.int .i64) y,.d (.int .i64) b] [.d .bool,.d (.int .i64)]
abbrev Asks:=bAu->Int->LP->LP->List Int->List Int->Int->Int->Int->Option (Bool×Int)
def bQb(i:Int)(l a:LP)(b:Int)(s:List Int):Bool:=
 decide (0<=i)&&decide (i<=1000)&&decide (l.length<=1000)&&decide (0<=b)&&decide (b<=100000)&&decide (s.length=bC3 i l+a.length)&&decide (s.length<=3001)&&s.all fun x=>decide (0<=x)&&decide (x<=18446744073709551615)
def endG:Option (Sum Int (List Int×LP))->Option (List Int×Int)
 |some (.inr st)=>some (st.1,0)
 |some (.inl e)=>some ([],e)
 |none=>none
def bHt(V:Asks)(C:bAu):List AV->Option (List Int×Int)
 |[.agg [.d (.int .i64) i,.d (.list (.pair (.int .i64) (.int .i64))) l,.d (.list (.pair (.int .i64) (.int .i64))) a,.d (.list (.int .i64)) p,.d (.list (.int .i64)) q],.d (.int .i64) b]=>
  match C 18 [bCk i l a p q] [.own (.int .u64),.d (.int .i64)]with
  |some r1=>if(show List Int×Int from r1).2≠0 then some ([],(show List Int×Int from r1).2) else if(show Int from b)<0\/100000<(show Int from b) then some ([],2) else match C 32 [bCk i l a p q] [.d (.int .u64)]with
   |some r2=>match C 55 [.d (.int .u64) (1:Int),.d (.int .u64) (((show List Int×Int from r1).1.length:Nat):Int)] [.d (.int .u64),.d (.int .u64)]with
    |some r3=>if(show List Int×Int from r1).2=0/\(show Int×Int from r3)=((0:Int),((show List Int×Int from r1).1.length:Int))/\bQb i l a b (show List Int×Int from r1).1=true then
      endG (runG r2 (bC3 i l) (V C i l a p q b) (show List Int×Int from r1).1 (show List Int×Int from r1).1.length) else none
    |none=>none
   |none=>none
  |none=>none
 |_=>none
def bPx(V:Asks)(C:bAu)(xs:List AV):(s:List Sh)->Option (dens s)
 |[.d (.list (.int .i64)),.d (.int .i64)]=>bHt V C xs
 |_=>none
def cGq(f:Int->Int->Option (Bool×Int))(g:Nat->Int->Int->Option (Bool×Int)):Prop:=∀x y z,f x y=some z->∃n,∀m,n<=m->g m x y=some z
theorem cGk{f:Int->Int->Option (Bool×Int)}{g:Nat->Int->Int->Option (Bool×Int)}(h:cGq f g){v l:Int}{z:Bool×Int}(hz:bQm f v l=some z):∃n,∀m,n<=m->bQm (g m) v l=some z:=by
 unfold bQm at hz
 split at hz
 .cases hz
 .rename_i b e h1
  obtain⟨n,hn⟩:=h _ _ _ h1
  split at hz
  .rename_i hc
   obtain⟨k,hk⟩:=h _ _ _ hz
   exact⟨max n k,fun m hm=>by unfold bQm;rw[hn m (by omega)];simp only;rw[if_pos hc];exact hk m (by omega)⟩
  .rename_i hc
   exact⟨n,fun m hm=>by unfold bQm;rw[hn m hm];simp only;rw[if_neg hc];exact hz⟩
theorem cGb{f:Int->Int->Option (Bool×Int)}{g:Nat->Int->Int->Option (Bool×Int)}(h:cGq f g){all:Int}{gate:Nat}{s:List Int}{st:List Int×List (Int×Int)}{z:Sum Int (List Int×List (Int×Int))}(hz:stepG all gate f s st=some z):∃n,∀m,n<=m->stepG all gate (g m) s st=some z:=by
 unfold stepG at hz
 split at hz
 .rename_i h1
  exact⟨0,fun m _=>by unfold stepG;rw[h1];exact hz⟩
 .rename_i u h1
  split at hz
  .rename_i h2
   exact⟨0,fun m _=>by unfold stepG;rw[h1];simp only;rw[if_pos h2];exact hz⟩
  .rename_i h2
   by_cases h3:gate<=7
   .rw[if_pos h3]at hz
    exact⟨0,fun m _=>by unfold stepG;rw[h1];simp only;rw[if_neg h2,if_pos h3];exact hz⟩
   .rw[if_neg h3]at hz
    cases h4:bQm f (st.1.length:Int) (litG s u (s.getD st.1.length 0)) with
    |none=>rw[h4]at hz;cases hz
    |some r=>
     obtain⟨n,hn⟩:=cGk h h4
     rw[h4]at hz
     exact⟨n,fun m hm=>by unfold stepG;rw[h1];simp only;rw[if_neg h2,if_neg h3,hn m hm];exact hz⟩
theorem bSx{f:Int->Int->Option (Bool×Int)}{g:Nat->Int->Int->Option (Bool×Int)}(h:cGq f g){all:Int}{gate:Nat}{s:List Int}:∀(k:Nat) (z:Sum Int (List Int×List (Int×Int))),runG all gate f s k=some z->∃n,∀m,n<=m->runG all gate (g m) s k=some z
 |0,z,hz=>⟨0,fun m _=>hz⟩
 |k+1,z,hz=>by
  simp only[runG]at hz
  split at hz
  .rename_i st h1
   obtain⟨n1,hn1⟩:=bSx h k _ h1
   obtain⟨n2,hn2⟩:=cGb h hz
   exact⟨max n1 n2,fun m hm=>by simp only[runG];rw[hn1 m (by omega)];exact hn2 m (by omega)⟩
  .rename_i e h1
   obtain⟨n1,hn1⟩:=bSx h k _ h1
   exact⟨n1,fun m hm=>by simp only[runG];rw[hn1 m hm];exact hz⟩
  .cases hz
theorem cK1{f:Int->Int->Option (Bool×Int)}{g:Nat->Int->Int->Option (Bool×Int)}(h:cGq f g){all:Int}{gate:Nat}{s:List Int}{k:Nat}{z:List Int×Int}(hz:endG (runG all gate f s k)=some z):∃n,∀m,n<=m->endG (runG all gate (g m) s k)=some z:=by
 cases h1:runG all gate f s k with
 |none=>rw[h1]at hz;cases hz
 |some r=>
  obtain⟨n,hn⟩:=bSx h k _ h1
  rw[h1]at hz
  exact⟨n,fun m hm=>by rw[hn m hm];exact hz⟩
theorem bYn{V:Asks}(hV:∀{C:bAu} {Cn:Nat->bAu},Near C Cn->∀i l a p q b,cGq (V C i l a p q b) (fun m=>V (Cn m) i l a p q b)){C:bAu}{Cn:Nat->bAu}(h:Near C Cn){xs:List AV}{z:List Int×Int}(hz:bHt V C xs=some z):∃n,∀m,n<=m->bHt V (Cn m) xs=some z:=by
 unfold bHt at hz
 split at hz
 .rename_i i l a p q b
  split at hz
  .rename_i r1 h1
   obtain⟨n1,k1⟩:=h _ _ _ _ h1
   split at hz
   .rename_i he
    refine⟨n1,fun m hm=>?_⟩
    simp only[bHt,k1 m (by omega),if_pos he]
    exact hz
   .rename_i he
    split at hz
    .rename_i hb
     refine⟨n1,fun m hm=>?_⟩
     simp only[bHt,k1 m (by omega),if_neg he,if_pos hb]
     exact hz
    .rename_i hb
     split at hz
     .rename_i r2 h2
      split at hz
      .rename_i r3 h3
       split at hz
       .rename_i hc
        obtain⟨n2,k2⟩:=h _ _ _ _ h2
        obtain⟨n3,k3⟩:=h _ _ _ _ h3
        obtain⟨n4,k4⟩:=cK1 (hV h i l a p q b) hz
        refine⟨max (max n1 n2) (max n3 n4),fun m hm=>?_⟩
        simp only[bHt,k1 m (by omega),if_neg he,if_neg hb,k2 m (by omega),k3 m (by omega),if_pos hc]
        exact k4 m (by omega)
       .cases hz
      .cases hz
     .cases hz
  .cases hz
 .cases hz
theorem bYm{V:Asks}(hV:∀{C:bAu} {Cn:Nat->bAu},Near C Cn->∀i l a p q b,cGq (V C i l a p q b) (fun m=>V (Cn m) i l a p q b)){C:bAu}{Cn:Nat->bAu}(h:Near C Cn)(xs:List AV)(s:List Sh)(z:dens s)(hz:bPx V C xs s=some z):∃n,∀m,n<=m->bPx V (Cn m) xs s=some z:=by
 unfold bPx at hz
 split at hz
 .exact bYn hV h hz
 .cases hz
def cAr:HK where
 run:=bPx nvOf
 near:=bYm fun h i l a p q b x y z hz=>h _ _ _ _ hz
theorem cG6{i:Int}{l a:LP}{b:Int}{s:List Int}(h:bQb i l a b s=true):
  0<=i/\i<=1000/\l.length<=1000/\0<=b/\b<=100000/\s.length=bC3 i l+a.length/\s.length<=3001/\∀x∈s,0<=x/\x<=18446744073709551615:=by
 simp only[bQb,Bool.and_eq_true,decide_eq_true_eq,List.all_eq_true]at h
 obtain⟨⟨⟨⟨⟨⟨⟨h1,h2⟩,h3⟩,h4⟩,h5⟩,h6⟩,h7⟩,h8⟩:=h
 exact⟨h1,h2,h3,h4,h5,h6,h7,h8⟩
set_option maxHeartbeats 1000000 in
theorem cG5{E:Env}(h18:bAa E.sg 18=some ([.ro],[.own (.int .u64),.d (.int .i64)]))(h32:bAa E.sg 32=some ([.ro],[.d (.int .u64)]))(h55:bAa E.sg 55=some ([.ro,.ro],[.d (.int .u64),.d (.int .u64)]))
  {C:bAu} (hC:bC2 Tryz.prog E C) (i:Int) (l a:LP) (p q:List Int) (b:Int) (s:List Int) (all:Int) (z:List Int×Int) (nv:Int->Int->Option (Bool×Int))
  (h18a:C 18 [bCk i l a p q] [.own (.int .u64),.d (.int .i64)]=some (s,(0:Int))) (h32a:C 32 [bCk i l a p q] [.d (.int .u64)]=some all)
  (h55a:C 55 [.d (.int .u64) (1:Int),.d (.int .u64) (s.length:Int)] [.d (.int .u64),.d (.int .u64)]=some ((0:Int),(s.length:Int))) (hB:bQb i l a b s=true)
  (hz:endG (runG all (bC3 i l) nv s s.length)=some z)
  (hN:∀x y t n,nv x y=some (t,n)->∀(W:World) (u:Value),VR2 noβ [] W (fun b=>False\/b∈([]:List Nat)) (bCk i l a p q) u []->Calls Tryz.prog 34 #[u,.int .i64 x,.int .i64 y,.int .i64 b] W fun e w'=>e = .returned (.tuple #[.bool t,.int .i64 n])/\Below W.heap.size W w')
  (b0:Nat->Prop) (w:World) (vs:List Value) (bs:List Nat) (hvs:Vs (VR2 noβ [] w (fun b=>b0 b\/b∈bs)) [bCk i l a p q,.d (.int .i64) b] vs bs) (hb0:∀b,b0 b->b<w.heap.size) :
  Calls Tryz.prog 11 vs.toArray w fun e w'=>∃v,e = .returned v/\bMo b0 [.ro,.ro] [.d (.list (.int .i64)),.d (.int .i64)] vs bs w w' z v:=by
 obtain⟨i0,i1,l1,c0,c1,sl,sN,sr⟩:=cG6 hB
 obtain⟨v1,vs1,b1,bs1,rfl,rfl,g1,hvs1⟩:=hvs.cons'
 obtain⟨v2,vs2,b2,bs2,rfl,rfl,g2,hvs2⟩:=hvs1.cons'
 obtain⟨rfl,rfl⟩:=hvs2.nil'
 obtain⟨rfl,u1,u2,u3,u4,rfl,k1,k2,k3,k4⟩:=bYw g1
 obtain⟨rfl,rfl⟩:=bBc g2
 obtain⟨A1,d1,rfl,-,-⟩:=bJu k1
 obtain⟨A2,d2,rfl,-,-⟩:=bJu k2
 obtain⟨A3,d3,rfl,-,-⟩:=ints_at k3
 obtain⟨A4,d4,rfl,-,-⟩:=ints_at k4
 have hgate:(bC3 i l:Int)=i+(l.length:Int)+1:=by unfold bC3;omega
 have hs1:1<=s.length:=by omega
 cases hr:runG all (bC3 i l) nv s s.length with
 |none=>rw[hr]at hz;cases hz
 |some ans=>
  rw[hr]at hz
  have hSig:SigDo (.agg #[.int .i64 i,.slice A1 l.length d1,.slice A2 a.length d2,.slice A3 p.length d3,.slice A4 q.length d4]) s s.length w:=by
   intro W hb
   refine((hC 18 _ _ h18 _ _ h18a).2 (fun _=>False) W _ [] (.cons (b:=[]) (bKw hb g1) .nil) List.nodup_nil (by simp) (fun _ h=>h.elim)).mono fun e w' h=>?_
   obtain⟨v,rfl,hres⟩:=h
   obtain⟨e1,e2,_,hbs,hv,_⟩:=hres.res
   obtain⟨us,rfl,hu⟩:=hv
   obtain⟨x1,y1,m1,n1,rfl,_,j1,hu⟩:=hu.cons'
   obtain⟨x2,y2,m2,n2,rfl,_,j2,hu⟩:=hu.cons'
   obtain⟨rfl,_⟩:=hu.nil'
   obtain⟨rfl,-⟩:=bBc (β:=noβ) (ob:=[]) (w:=w') (show VR2 noβ [] w' _ (.d (.int .i64) (0:Int)) x2 m2 from j2)
   have j1':newV w' (fun b=>False\/b∈e1++e2) (.int .u64) s x1 m1:=j1
   rcases j1' with⟨_,h,_⟩|⟨bb,o,c,_,rfl,cells,elem,hh,_,_,hrow⟩
   .subst h;simp at hs1
   .refine⟨bb,o,c,rfl,bG4 hres.same (by simp),fun j x hx=>?_⟩
    obtain⟨ds,q1,q2⟩:=hrow j x hx
    have q1':ds=[.int .u64 x]:=q1
    subst q1'
    have:=q2 0 _ rfl
    rw[cell_of hh]
    simpa[Go.Proofs.YtjkoadoekaplpaaGreat.R.Ty.size]using this
  have hAll:∀W,Below w.heap.size w W->Calls Tryz.prog 32 #[.agg #[.int .i64 i,.slice A1 l.length d1,.slice A2 a.length d2,.slice A3 p.length d3,.slice A4 q.length d4]] W fun e w'=>e = .returned (.int .u64 all)/\Below W.heap.size W w':=by
   intro W hb
   refine((hC 32 _ _ h32 _ _ h32a).2 (fun _=>False) W _ [] (.cons (b:=[]) (bKw hb g1) .nil) List.nodup_nil (by simp) (fun _ h=>h.elim)).mono fun e w' h=>?_
   obtain⟨v,rfl,hres⟩:=h
   obtain⟨e1,e2,_,hbs,hv,_⟩:=hres.res
   obtain⟨rfl,-⟩:=bBc (β:=noβ) (ob:=[]) (w:=w') (show VR2 noβ [] w' _ (.d (.int .u64) all) v e1 from hv)
   exact⟨rfl,bG4 hres.same (by simp)⟩
  have hM:∀W,Below w.heap.size w W->Calls Tryz.prog 55 #[.int .u64 1,.int .u64 (s.length:Int)] W fun e w'=>e = .returned (.tuple #[.int .u64 0,.int .u64 (s.length:Int)])/\Below W.heap.size W w':=by
   intro W hb
   refine((hC 55 _ _ h55 _ _ h55a).2 (fun _=>False) W _ [] (.cons (b:=[]) (bFh _ _) (.cons (b:=[]) (bFh _ _) .nil)) List.nodup_nil (by simp) (fun _ h=>h.elim)).mono fun e w' h=>?_
   obtain⟨v,rfl,hres⟩:=h
   obtain⟨e1,e2,_,hbs,hv,_⟩:=hres.res
   obtain⟨us,rfl,hu⟩:=hv
   obtain⟨x1,y1,m1,n1,rfl,_,j1,hu⟩:=hu.cons'
   obtain⟨x2,y2,m2,n2,rfl,_,j2,hu⟩:=hu.cons'
   obtain⟨rfl,_⟩:=hu.nil'
   obtain⟨rfl,-⟩:=bBc (β:=noβ) (ob:=[]) (w:=w') (show VR2 noβ [] w' _ (.d (.int .u64) (0:Int)) x1 m1 from j1)
   obtain⟨rfl,-⟩:=bBc (β:=noβ) (ob:=[]) (w:=w') (show VR2 noβ [] w' _ (.d (.int .u64) (s.length:Int)) x2 m2 from j2)
   exact⟨rfl,bG4 hres.same (by simp)⟩
  have hNv:∀(x y:Int) (t:Bool) (n:Int) (W:World),nv x y=some (t,n)->Below w.heap.size w W->Calls Tryz.prog 34 #[.agg #[.int .i64 i,.slice A1 l.length d1,.slice A2 a.length d2,.slice A3 p.length d3,.slice A4 q.length d4],.int .i64 x,.int .i64 y,.int .i64 b] W fun e w'=>e = .returned (.tuple #[.bool t,.int .i64 n])/\Below W.heap.size W w':=by
   intro x y t n W ha hb
   exact hN x y t n ha W _ (bKw hb g1)
  have hw:=cG2 i b l.length d1 a.length d2 p.length d3 q.length d4 A1 A2 A3 A4 s all s.length (bC3 i l) w i0 i1 l1 nv ans hgate c0 c1 hr hNv rfl sN hs1 sr hSig hAll hM
  refine hw.mono ?_
  have hnb:∀b,w.heap.size<=b->¬((fun b=>b0 b\/b∈([]:List Nat)++[]) b):=fun b hb h=>by
   rcases h with h|h
   .have:=hb0 b h;omega
   .cases h
  rintro e w' (⟨st,T,rfl,rfl,hT,hbel,hrow⟩|⟨er,rfl,rfl,hbel⟩)
  .cases hz
   have hlen:=(bXw _ _ hr).1
   have y5:VR0 noβ [] w' (fun b=>b0 b\/b∈([]:List Nat)++[]) (.d (.list (.int .i64)) st.1) (.slice (some ⟨T,0,none⟩) s.length s.length) []:=bSf hlen.symm (Nat.le_refl _) (hnb T (by omega)) fun j x hx=>hrow.cell hx
   refine⟨_,rfl,⟨(bDn hbel).mono fun _ _ h=>h.elim,[],[],by simp,by simp,?_,.nil⟩⟩
   exact⟨[_,.int .i64 0],rfl,Vs.cons (b:=[]) (a:=.d (.list (.int .i64)) st.1) y5 (.cons (b:=[]) (a:=.d (.int .i64) 0) (bFh (β:=noβ) (ob:=[]) .i64 0) .nil)⟩
  .cases hz
   refine⟨_,rfl,⟨(bDn hbel).mono fun _ _ h=>h.elim,[],[],by simp,by simp,?_,.nil⟩⟩
   exact⟨[_,.int .i64 er],rfl,Vs.cons (b:=[]) (a:=.d (.list (.int .i64)) []) bLj (.cons (b:=[]) (a:=.d (.int .i64) er) (bFh (β:=noβ) (ob:=[]) .i64 er) .nil)⟩
theorem nv_do{E:Env}(h34:bAa E.sg 34=some ([.ro,.ro,.ro,.ro],[.d .bool,.d (.int .i64)])){C:bAu}(hC:bC2 Tryz.prog E C)(i:Int)(l a:LP)(p q:List Int)(b x y:Int)(t:Bool)(n:Int)(ha:nvOf C i l a p q b x y=some (t,n))(W:World)(u:Value)(g1:VR2 noβ [] W (fun b=>False\/b∈([]:List Nat)) (bCk i l a p q) u []):
  Calls Tryz.prog 34 #[u,.int .i64 x,.int .i64 y,.int .i64 b] W fun e w'=>e = .returned (.tuple #[.bool t,.int .i64 n])/\Below W.heap.size W w':=by
 refine((hC 34 _ _ h34 _ _ ha).2 (fun _=>False) W _ [] (.cons (b:=[]) g1 (.cons (b:=[]) (bFh _ _) (.cons (b:=[]) (bFh _ _) (.cons (b:=[]) (bFh _ _) .nil)))) List.nodup_nil (by simp) (fun _ h=>h.elim)).mono fun e w' h=>?_
 obtain⟨v,rfl,hres⟩:=h
 obtain⟨e1,e2,_,hbs,hv,_⟩:=hres.res
 obtain⟨us,rfl,hu⟩:=hv
 obtain⟨x1,y1,m1,n1,rfl,_,j1,hu⟩:=hu.cons'
 obtain⟨x2,y2,m2,n2,rfl,_,j2,hu⟩:=hu.cons'
 obtain⟨rfl,_⟩:=hu.nil'
 obtain⟨rfl,-⟩:=bDu (β:=noβ) (ob:=[]) (w:=w') (show VR2 noβ [] w' _ (.d .bool t) x1 m1 from j1)
 obtain⟨rfl,-⟩:=bBc (β:=noβ) (ob:=[]) (w:=w') (show VR2 noβ [] w' _ (.d (.int .i64) n) x2 m2 from j2)
 exact⟨rfl,bG4 hres.same (by simp)⟩
theorem cAq{E:Env}(h18:bAa E.sg 18=some ([.ro],[.own (.int .u64),.d (.int .i64)])){C:bAu}(hC:bC2 Tryz.prog E C)(i:Int)(l a:LP)(p q:List Int)(b:Int)(s:List Int)(e0:Int)
  (h18a:C 18 [bCk i l a p q] [.own (.int .u64),.d (.int .i64)]=some (s,e0)) (er:Int) (her:(e0≠0/\er=e0)\/(e0=0/\(b<0\/100000<b)/\er=2))
  (b0:Nat->Prop) (w:World) (vs:List Value) (bs:List Nat) (hvs:Vs (VR2 noβ [] w (fun b=>b0 b\/b∈bs)) [bCk i l a p q,.d (.int .i64) b] vs bs) :
  Calls Tryz.prog 11 vs.toArray w fun e w'=>∃v,e = .returned v/\bMo b0 [.ro,.ro] [.d (.list (.int .i64)),.d (.int .i64)] vs bs w w' (([],er):List Int×Int) v:=by
 obtain⟨v1,vs1,b1,bs1,rfl,rfl,g1,hvs1⟩:=hvs.cons'
 obtain⟨v2,vs2,b2,bs2,rfl,rfl,g2,hvs2⟩:=hvs1.cons'
 obtain⟨rfl,rfl⟩:=hvs2.nil'
 obtain⟨rfl,u1,u2,u3,u4,rfl,k1,k2,k3,k4⟩:=bYw g1
 obtain⟨rfl,rfl⟩:=bBc g2
 obtain⟨A1,d1,rfl,-,-⟩:=bJu k1
 obtain⟨A2,d2,rfl,-,-⟩:=bJu k2
 obtain⟨A3,d3,rfl,-,-⟩:=ints_at k3
 obtain⟨A4,d4,rfl,-,-⟩:=ints_at k4
 have hSig:∀W,Below w.heap.size w W->Calls Tryz.prog 18 #[.agg #[.int .i64 i,.slice A1 l.length d1,.slice A2 a.length d2,.slice A3 p.length d3,.slice A4 q.length d4]] W fun e w'=>∃x,e = .returned (.tuple #[x,.int .i64 e0])/\Below W.heap.size W w':=by
  intro W hb
  refine((hC 18 _ _ h18 _ _ h18a).2 (fun _=>False) W _ [] (.cons (b:=[]) (bKw hb g1) .nil) List.nodup_nil (by simp) (fun _ h=>h.elim)).mono fun e w' h=>?_
  obtain⟨v,rfl,hres⟩:=h
  obtain⟨e1,e2,_,hbs,hv,_⟩:=hres.res
  obtain⟨us,rfl,hu⟩:=hv
  obtain⟨x1,y1,m1,n1,rfl,_,j1,hu⟩:=hu.cons'
  obtain⟨x2,y2,m2,n2,rfl,_,j2,hu⟩:=hu.cons'
  obtain⟨rfl,_⟩:=hu.nil'
  obtain⟨rfl,-⟩:=bBc (β:=noβ) (ob:=[]) (w:=w') (show VR2 noβ [] w' _ (.d (.int .i64) e0) x2 m2 from j2)
  exact⟨x1,rfl,bG4 hres.same (by simp)⟩
 have fin:∀(u:Value) (w':World),Below w.heap.size w w'->∃v,(Ending.returned (.tuple #[.slice none 0 0,.int .i64 er])) = .returned v/\bMo b0 [.ro,.ro] [.d (.list (.int .i64)),.d (.int .i64)] [u,.int .i64 b] [] w w' (([],er):List Int×Int) v:=fun u w' hbel=>
  ⟨_,rfl,⟨(bDn hbel).mono fun _ _ h=>h.elim,[],[],by simp,by simp,⟨[_,.int .i64 er],rfl,Vs.cons (b:=[]) (a:=.d (.list (.int .i64)) []) bLj (.cons (b:=[]) (a:=.d (.int .i64) er) (bFh (β:=noβ) (ob:=[]) .i64 er) .nil)⟩,.nil⟩⟩
 rcases her with⟨h0,rfl⟩|⟨rfl,hb,rfl⟩
 .refine(cG4 i b er l.length d1 a.length d2 p.length d3 q.length d4 A1 A2 A3 A4 w h0 hSig).mono ?_
  rintro e w' ⟨rfl,hbel⟩
  exact fin _ w' hbel
 .refine(cG3 i b l.length d1 a.length d2 p.length d3 q.length d4 A1 A2 A3 A4 w hb hSig).mono ?_
  rintro e w' ⟨rfl,hbel⟩
  exact fin _ w' hbel
theorem cM7{E:Env}{V:Asks}{k:HK}(hk:k.run=bPx V)(h11:bAa E.sg 11=some ([.ro,.ro],[.d (.list (.int .i64)),.d (.int .i64)]))(h18:bAa E.sg 18=some ([.ro],[.own (.int .u64),.d (.int .i64)]))(h32:bAa E.sg 32=some ([.ro],[.d (.int .u64)]))(h55:bAa E.sg 55=some ([.ro,.ro],[.d (.int .u64),.d (.int .u64)]))
  (hV:∀{C:bAu},bC2 Tryz.prog E C->∀i l a p q b x y t n,V C i l a p q b x y=some (t,n)->∀(W:World) (u:Value),VR2 noβ [] W (fun b=>False\/b∈([]:List Nat)) (bCk i l a p q) u []->Calls Tryz.prog 34 #[u,.int .i64 x,.int .i64 y,.int .i64 b] W fun e w'=>e = .returned (.tuple #[.bool t,.int .i64 n])/\Below W.heap.size W w'):HkDo Tryz.prog E 11 k:=by
 intro C hC ms rs hsg xs r hans b0 w vs bs hvs hnd hbs hb0
 rw[h11]at hsg
 cases hsg
 rw[hk]at hans
 have hans':bHt V C xs=some r:=hans
 clear hans
 unfold bHt at hans'
 split at hans'
 .split at hans'
  .rename_i r1 h1
   obtain⟨s,e⟩:=r1
   split at hans'
   .rename_i he
    cases hans'
    exact cAq h18 hC _ _ _ _ _ _ s e h1 e (.inl ⟨he,rfl⟩) b0 w vs bs hvs
   .rename_i he
    have e1':e=0:=Decidable.not_not.1 he
    subst e1'
    split at hans'
    .rename_i hb
     cases hans'
     exact cAq h18 hC _ _ _ _ _ _ s 0 h1 2 (.inr ⟨rfl,hb,rfl⟩) b0 w vs bs hvs
    .split at hans'
     .rename_i r2 h2
      split at hans'
      .rename_i r3 h3
       split at hans'
       .rename_i hc
        obtain⟨e1,e2,hB⟩:=hc
        exact cG5 h18 h32 h55 hC _ _ _ _ _ _ s r2 r _ h1 h2 (h3.trans (congrArg some e2)) hB hans' (hV hC _ _ _ _ _ _) b0 w vs bs hvs hb0
       .cases hans'
      .cases hans'
     .cases hans'
  .cases hans'
 .cases hans'
theorem givenDo{E:Env}(h11:bAa E.sg 11=some ([.ro,.ro],[.d (.list (.int .i64)),.d (.int .i64)]))(h18:bAa E.sg 18=some ([.ro],[.own (.int .u64),.d (.int .i64)]))(h32:bAa E.sg 32=some ([.ro],[.d (.int .u64)]))(h55:bAa E.sg 55=some ([.ro,.ro],[.d (.int .u64),.d (.int .u64)]))(h34:bAa E.sg 34=some ([.ro,.ro,.ro,.ro],[.d .bool,.d (.int .i64)])):HkDo Tryz.prog E 11 cAr:=
 cM7 rfl h11 h18 h32 h55 (nv_do h34)
end
end Go.Proofs.YtjkoadoekaplpaaGreat

